/- Part 8. -/
import GoSem.Core.View
import Derived.Test.YtbnepjakjmnadaaGreatSb7
set_option linter.all false
set_option maxHeartbeats 2000000
section
namespace Go.Lf
def loop{h β:Type}:Nat->(h->(h->O β)->O β)->h->O β
 | 0,_,_=>none
 | F+1,body,a=>body a (loop F body)
def Z7{h β:Type}(F:Nat)(body:h->(h->O β)->O β)(a:h):loop (F+1) body a=body a (loop F body):=rfl
def Yl{α:Type}(l:U α)(k:Int):O α:=bif decide (0<=k) then l[k.toNat]? else none
def Zdq{h:Type}(l:U h)(k:Nat):Yl l (k:Int)=l[k]?:=by simp[Yl]
def ZbA{p:Type}{l:U p}{k:Int}{x:p}(h:Yl l k=some x):(k.toNat:Int)=k/\k.toNat<l.length/\l[k.toNat]? =some x:=by
 unfold Yl at h;by_cases q:0<=k;.rw[decide_eq_true q,Cq1]at h;exact⟨by omega,(Li0 h).1,h⟩
 rw[decide_eq_false q,Cq0]at h;cases h
def ZoA{α:Type}(l:U α)(k:Int)(x:α):U α:=l.set k.toNat x
def XD(n:Int):Int:=Go.IntKind.i64.wrap n
def ZcN{n:Int}(h1:-9223372036854775808<=n)(h2:n<=9223372036854775807):XD n=n:=by
 unfold XD Go.IntKind.wrap;have q:(2 ^ IntKind.i64.bits:Int)=18446744073709551616:=by decide
 have p:(2 ^ (IntKind.i64.bits-1):Int)=9223372036854775808:=by decide
 have l:IntKind.i64.signed=true:=rfl;rw[q,p,l];dsimp only;split;next h=>simp at h;omega
 rename_i h;simp at h;omega
def Zx9(a b:Int):O Int:=bif b==0 then none else some (XD (a.tdiv b))
def Zx6(a b:Int):O Int:=bif b==0 then none else some (a.tmod b)
def Zx8{a b c:Int}(h:Zx9 a b=some c):b≠0/\c=XD (a.tdiv b):=by unfold Zx9 at h;cases e:b==0 with|true=>rw[e]at h;cases h|false=>rw[e]at h;cases h;exact⟨by simpa using e,rfl⟩
def Zx5{a b c:Int}(h:Zx6 a b=some c):b≠0/\c=a.tmod b:=by unfold Zx6 at h;cases e:b==0 with|true=>rw[e]at h;cases h|false=>rw[e]at h;cases h;exact⟨by simpa using e,rfl⟩
def slL{l:Type}(xs:U l)(lo h:Int):O (U l):=bif decide (0<=lo)&&(decide (lo<=h)&&decide (h<=xs.length)) then some ((xs.take h.toNat).drop lo.toNat) else none
def gd{α:Type}(g:Z)(m:O α)(d:α):O α:=bif g then m else some d
def ZjP{h:Type}(m:O h)(d:h):gd true m d=m:=rfl
def ZCG{h:Type}(m:O h)(d:h):gd false m d=some d:=rfl
def app{l:Type}(h:Nat)(xs ys:U l):O (U l):=bif Nat.ble ((2*(xs.length+ys.length)+1000)*h) (2 ^ 47) then some (xs++ys) else none
def Zmi{p:Type}{l:Nat}{xs ys:U p}(h:(2*(xs.length+ys.length)+1000)*l<=2 ^ 47):app l xs ys=some (xs++ys):=by unfold app;rw[Nm0 h];rfl
def ZEx{r:Type}{l:Nat}{xs ys p:U r}(h:app l xs ys=some p):p=xs++ys/\(2*(xs.length+ys.length)+1000)*l<=2 ^ 47:=by
 unfold app at h;cases q:Nat.ble ((2*(xs.length+ys.length)+1000)*l) (2 ^ 47)<;>rw[q]at h;.cases h
 cases h;exact⟨rfl,Nl0 q⟩
def bS{l β:Type}{m:O l}{f:l->O β}{r:β}(h:m.bind f=some r):∃x,m=some x/\f x=some r:=Option.bind_eq_some_iff.1 h
def Xd{l β:Type}{g:Z}{m:O l}{d:l}{f:l->O β}{r:β}(h:(gd g m d).bind f=some r):∃x,(g=true->m=some x)/\f x=some r:=by have⟨x,h1,h2⟩:=bS h;refine⟨x,fun p=>?_,h2⟩;subst p;exact h1
def YS{l:Type}{c:Z}{a b r:l}(p:c=true)(h:(bif c then a else b)=r):a=r:=by subst p;exact h
def YT{l:Type}{c:Z}{a b r:l}(p:c=false)(h:(bif c then a else b)=r):b=r:=by subst p;exact h
def Yq{h r:Type}[DecidableEq h]:U (h×r)->h->O (Nat×r)
 | [],_=>none
 | p::l,k=>if p.1=k then some (0,p.2) else(Yq l k).map fun q=>(q.1+1,q.2)
def ZC{h ν:Type}[DecidableEq h](l:U (h×ν))(k:h):O ν:=(Yq l k).map (·.2)
def Yu{h r:Type}[DecidableEq h](l:U (h×r))(k:h)(x:r):U (h×r):=match Yq l k with
 | some q=>l.modify q.1 fun p=>(p.1,x)
 | none=>l++[(k,x)]
def Zfs{h p:Type}[DecidableEq h](l:U (h×p))(k:h):U (h×p):=match Yq l k with|some q=>l.eraseIdx q.1|none=>l
def ZeN{h ν:Type}[DecidableEq h](l:U (h×ν))(k:h)(z:ν):O ν:=some ((ZC l k).getD z)
def ZAB{p h:Type}[DecidableEq p](l:U (p×h))(k:p)(z:h):O (h×Z):=some ((ZC l k).getD z,(ZC l k).isSome)
section
variable{κ ν:Type}[DecidableEq κ]
theorem ZaC{l:U (κ×ν)}{k:κ}{q:Nat×ν}(h:Yq l k=some q):l[q.1]? =some (k,q.2):=by
 induction l generalizing q with|nil=>cases h|cons p l ih=>
   unfold Yq at h;split at h;next e=>cases h;simp[<-e]
   cases e:Yq l k with|none=>rw[e]at h;cases h|some r=>rw[e]at h;cases h;simpa using ih e
theorem Zfr{l:U (κ×ν)}{k:κ}:Yq l k=none↔∀p∈l,p.1≠k:=by
 induction l with|nil=>simp[Yq]|cons p l ih=>
   unfold Yq;split;next e=>simp[e]
   rename_i e;simp[e,ih]
theorem ZbR{l r:U (κ×ν)}{k:κ}(h:Yq l k=none):Yq (l++r) k=(Yq r k).map fun q=>(q.1+l.length,q.2):=by
 induction l with|nil=>cases e:Yq r k<;>simp[e]|cons p l ih=>
   rw[Zfr]at h;have h1:p.1≠k:=h p (by simp);have h2:Yq l k=none:=Zfr.2 fun q t=>h q (by simp[t]);rw[Gp,Yq,if_neg h1,ih h2];cases e:Yq r k with|none=>rfl|some q=>simp[GO]
theorem ZaV{l t:U (κ×ν)}{k:κ}{q:Nat×ν}(h:Yq l k=some q):Yq (l++t) k=some q:=by
 induction l generalizing q with|nil=>cases h|cons p l ih=>
   rw[Gp];unfold Yq at h ⊢;split;next e=>rw[if_pos e]at h;exact h
   rename_i e;rw[if_neg e]at h;cases r:Yq l k with|none=>rw[r]at h;cases h|some x=>rw[r]at h;rw[ih r];exact h
theorem ZhQ{l p:U (κ×ν)}{k:κ}(h:ZC l k=none):ZC (l++p) k=ZC p k:=by
 unfold ZC at h ⊢
 have h1:Yq l k=none:=by
  cases e:Yq l k with|none=>rfl|some q=>rw[e]at h;cases h
 rw[ZbR h1];cases Yq p k<;>rfl
theorem ZhP{l p:U (κ×ν)}{k:κ}{v:ν}(h:ZC l k=some v):ZC (l++p) k=some v:=by unfold ZC at h ⊢;cases e:Yq l k with|none=>rw[e]at h;cases h|some q=>rw[e]at h;rw[ZaV e];exact h
theorem ZoX{l:U (κ×ν)}{k r:κ}{q:Nat×ν}{x:ν}(h:Yq l k=some q):(Yq (l.modify q.1 fun p=>(p.1,x)) r).map (·.2)=if r=k then some x else(Yq l r).map (·.2):=by
 induction l generalizing q with|nil=>cases h|cons p l ih=>
   unfold Yq at h;split at h
   .rename_i e;cases h;simp only[List.modify_zero_cons];unfold Yq;dsimp only;rw[e];by_cases y:k=r;.subst y;simp
    rw[if_neg y,if_neg y,if_neg (fun z=>y z.symm)]
   rename_i e;cases A:Yq l k with|none=>rw[A]at h;cases h|some B=>
     rw[A]at h;cases h;have:=ih A;simp only[List.modify_succ_cons];unfold Yq;by_cases t:p.1=r;.rw[if_pos t,if_pos t];have:¬ r=k:=fun z=>e (t.trans z);rw[if_neg this]
     rw[if_neg t,if_neg t,Option.map_map,Option.map_map];exact this
theorem WZ(l:U (κ×ν))(k k':κ)(x:ν):ZC (Yu l k x) k'=if k'=k then some x else ZC l k':=by
 unfold Yu ZC;cases e:Yq l k with|some q=>exact ZoX e|none=>
   dsimp only;by_cases h:k'=k;.subst h;rw[if_pos rfl,ZbR e];simp[Yq]
   rw[if_neg h];cases p:Yq l k' with|some q=>rw[ZaV p]|none=>
     rw[ZbR p];have:Yq [(k,x)] k'=none:=by simp[Yq];exact fun z=>h z.symm
     rw[this];rfl
end
inductive PR(β:Type) where
 | ok (b:β)
 | Ym (k:Int)
def JN{h β:Type}(x:PR h)(p:Int->O β)(k:h->O β):O β:=match x with|.ok y=>k y|.Ym e=>p e
def opt{h β:Type}(x:O h)(p:O β)(k:h->O β):O β:=match x with|some y=>k y|none=>p
def Zns{l h:Type}(b:l->h->O Z):U (l×h)->O Z
 | []=>some false
 | x::r=>(b x.1 x.2).bind fun p=>(Zns b r).bind fun q=>some (p||q)
def ZkE{C B:Type}{b:C->B->O Z}:∀{l:U (C×B)}{q:Z},Zns b l=some q->(∀x∈l,∃p,b x.1 x.2=some p)/\(q=true↔∃x∈l,b x.1 x.2=some true)
 | [],q,h=>by cases h;simp
 | x::r,q,h=>by
   have⟨p,h1,h⟩:=bS h;have⟨q',h2,h⟩:=bS h;cases h;have⟨i1,i2⟩:=ZkE h2;refine⟨fun y A=>?_,?_⟩
   .rcases K2.1 A with z|z
    .subst z;exact⟨p,h1⟩
    exact i1 y z
   rw[Bool.or_eq_true,i2]
   constructor
   .rintro(z|⟨y,A,t⟩)
    .exact⟨x,by simp,by rw[h1,z]⟩
    exact⟨y,by simp[A],t⟩
   rintro⟨y,A,t⟩;rcases K2.1 A with z|z
   .subst z;rw[h1]at t;left;exact Oi0 t
   exact .inr ⟨y,z,t⟩
end Go.Lf
end
section
noncomputable section
namespace Go.ZU
open Go.Lf
section
structure Fz(V:Nat)(h h':H):Prop where
 size:h.size<=h'.size
 keep:∀i cs own z,h.at i=.row cs own z->(i<V\/own=false)->h'.at i=.row cs own z
 low:∀i,i<V->i<h.size->h'.at i=h.at i
def Fz.refl(V:Nat)(h:H):Fz V h h:=⟨K1 _,fun _ _ _ _ e _=>e,fun _ _ _=>rfl⟩
def Fz.trans{V:Nat}{a b c:H}(x:Fz V a b)(y:Fz V b c):Fz V a c:=
 ⟨KK x.size y.size,fun i cs own z e s=>y.keep i cs own z (x.keep i cs own z e s) s,fun i h1 h2=>(y.low i h1 (G3 h2 x.size)).trans (x.low i h1 h2)⟩
structure Up(lo:Nat)(t:Nat->Prop)(h h':H):Prop where
 size:h.size<=h'.size
 keep:∀i,i<h.size->¬ t i->h'.at i=h.at i
 own:∀i,t i->lo<=i/\(h.at i).own=true
def Up.fz{lo V:Nat}{t:Nat->Prop}{h h':H}(u:Up lo t h h')(hw:V<=lo):Fz V h h':=by
 refine⟨u.size,fun i cs own z e s=>?_,fun i h1 h2=>u.keep i h2 fun l=>by have:=(u.own i l).1;omega⟩;rw[u.keep i (Y8 e rfl) ?_,e];intro l;have⟨h1,h2⟩:=u.own i l;rw[e]at h2;rcases s with s|s
 .omega
 subst s;cases h2
def Up.ZGo{h h':H}(lo:Nat)(g:Grow h h'):Up lo (fun _=>False) h h':=⟨g.size,fun i l _=>g.keep i l,fun _ e=>e.elim⟩
def Up.push(lo:Nat)(h:H)(A:Xv):Up lo (fun _=>False) h (h.push A):=Up.ZGo lo ((Grow.refl h).push A)
def Up.put{lo:Nat}{h:H}{b:Nat}{A:Xv}(p:lo<=b)(l:(h.at b).own=true):Up lo (fun i=>i=b) h (h.put b A):=
 ⟨K1 _,fun i _ hn=>XG hn A,fun i e=>by subst e;exact⟨p,l⟩⟩
def At(h:H)(b o:Nat)(vs:U N):Prop:=∃cs own z,h.at b=.row cs own z/\(cs.drop o).take vs.length=vs/\o+vs.length<=cs.length
def Stb(V:Nat)(h:H)(b:Nat):Prop:=b<V\/(h.at b).own=false
def At.box{h:H}{b:Nat}{vs:U N}{own:Z}{z:Nat}(l:h.at b=.row vs own z):At h b 0 vs:=⟨vs,own,z,l,by simp,by omega⟩
def At.fz{V:Nat}{h l:H}{b o:Nat}{vs:U N}(f:Fz V h l)(s:Stb V h b)(a:At h b o vs):At l b o vs:=by have⟨cs,own,z,h1,h2,h3⟩:=a;exact⟨cs,own,z,f.keep _ _ _ _ h1 (s.imp id fun e=>by rw[h1]at e;exact e),h2,h3⟩
def Stb.fz{V:Nat}{h l:H}{b o:Nat}{vs:U N}(f:Fz V h l)(a:At h b o vs)(s:Stb V h b):Stb V l b:=by have⟨cs,own,z,h1,_,_⟩:=a;refine s.imp id fun e=>?_;rw[h1]at e;rw[f.keep _ _ _ _ h1 (.inr e)];exact e
def At.cell{h:H}{b o j:Nat}{vs:U N}{v:N}(a:At h b o vs)(hv:vs[j]? =some v):∃cs own z,h.at b=.row cs own z/\cs[o+j]? =some v:=by have⟨cs,own,z,h1,h2,h3⟩:=a;refine⟨cs,own,z,h1,?_⟩;have l:=(Li0 hv).1;rw[<-h2,GB l,Gz]at hv;exact hv
def At.part{h:H}{b o j n:Nat}{vs ws:U N}(a:At h b o vs)(l:j+n<=vs.length)(hw:(vs.drop j).take n=ws):∃cs own z,h.at b=.row cs own z/\o+j+n<=cs.length/\(cs.drop (o+j)).take n=ws:=by have⟨cs,own,z,h1,h2,h3⟩:=a;refine⟨cs,own,z,h1,by omega,?_⟩;rw[<-hw,<-h2,List.drop_take,List.take_take,List.drop_drop];have e:min n (vs.length-j)=n:=Vb;rw[e]
structure U8(α:Type) where
 sz:Nat
 pos:0<sz
 Par:Type
 dflt:Par
 sh:Par->α->List Value
 len:∀p x,(sh p x).length=sz
 one:∀p x,(sh p x).all Value.oneCell'=true
 F:Nat->H->Par->α->Prop
 mono:∀{V h h' p x},Fz V h h'->F V h p x->F V h' p x
 up:∀{V wm' h p x},V<=wm'->F V h p x->F wm' h p x
def Zqf(a:O Addr)(c:Nat):Prop:=(a=none/\c=0)\/(a=some ⟨0,0,some 0⟩/\c=0)\/∃i o,a=some ⟨i,o,none⟩
structure Jg{α:Type}(e:U8 α)(V:Nat)(h:H)(cs:List Value)(o:Nat)(xs:List α):Prop where
 len:o+xs.length*e.sz<=cs.length
 get:∀k x,xs[k]? =some x->∃q,(cs.drop (o+k*e.sz)).take e.sz=e.sh q x/\e.F V h q x
def Jg.mono{l:Type}{e:U8 l}{V:Nat}{h p:H}{cs:U N}{o:Nat}{xs:U l}(f:Fz V h p)(a:Jg e V h cs o xs):Jg e V p cs o xs:=
 ⟨a.len,fun k x r=>let⟨q,h1,h2⟩:=a.get k x r;⟨q,h1,e.mono f h2⟩⟩
def Jg.up{p:Type}{e:U8 p}{V l:Nat}{h:H}{cs:U N}{o:Nat}{xs:U p}(f:V<=l)(a:Jg e V h cs o xs):Jg e l h cs o xs:=
 ⟨a.len,fun k x r=>let⟨q,h1,h2⟩:=a.get k x r;⟨q,h1,e.up f h2⟩⟩
structure Src{α:Type}(e:U8 α)(V:Nat)(h:H)(a:Option Addr)(c:Nat)(xs:List α):Prop where
 max:xs.length<=9223372036854775807
 cap:xs.length<=c / 2
 nl:Zqf a c
 mem:xs=[]\/∃i o cs own z,a=some ⟨i,o,none⟩/\h.at i=.row cs own z/\Jg e V h cs o xs
structure Sl{α:Type}(e:U8 α)(V:Nat)(h:H)(a:Option Addr)(c:Nat)(xs:List α):Prop where
 max:xs.length<=9223372036854775807
 cap:xs.length<=c / 2
 nl:Zqf a c
 mem:xs=[]\/∃i o cs own z,a=some ⟨i,o,none⟩/\h.at i=.row cs own z/\(i<V\/own=false)/\Jg e V h cs o xs
structure Kg{α:Type}(e:U8 α)(V lo:Nat)(h:H)(a:Option Addr)(c:Nat)(xs:List α):Prop where
 max:xs.length<=9223372036854775807
 mem:(a=none/\c=0/\xs=[])\/∃i o cs,a=some ⟨i,o,none⟩/\lo<=i/\h.at i=.row cs true e.sz/\xs.length<=c / 2/\o+(c / 2)*e.sz<=cs.length/\Jg e V h cs o xs
variable{α:Type}{e:U8 α}{V wm' lo:Nat}{h h':H}{a:O Addr}{c:Nat}{xs:U α}
def Sl.src(s:Sl e V h a c xs):Src e V h a c xs:=⟨s.max,s.cap,s.nl,s.mem.imp id fun⟨i,o,cs,own,z,h1,h2,_,l⟩=>⟨i,o,cs,own,z,h1,h2,l⟩⟩
def Kg.nl(s:Kg e V lo h a c xs):Zqf a c:=by
 rcases s.mem with⟨h1,h2,_⟩|⟨i,o,cs,h1,_⟩
 .exact .inl ⟨h1,h2⟩
 exact .inr (.inr ⟨i,o,h1⟩)
def Kg.cap(s:Kg e V lo h a c xs):xs.length<=c / 2:=by
 rcases s.mem with⟨_,_,l⟩|⟨i,o,cs,h1,_,l,p,_⟩
 .subst l;exact GH _
 exact p
def Kg.src(s:Kg e V lo h a c xs):Src e V h a c xs:=⟨s.max,s.cap,s.nl,by
 rcases s.mem with⟨_,_,l⟩|⟨i,o,cs,h1,_,l,_,_,p⟩
 .exact .inl l
 exact .inr ⟨i,o,cs,true,_,h1,l,p⟩⟩
def Sl.mono(f:Fz V h h')(s:Sl e V h a c xs):Sl e V h' a c xs:=⟨s.max,s.cap,s.nl,s.mem.imp id fun⟨i,o,cs,own,z,h1,h2,l,p⟩=>⟨i,o,cs,own,z,h1,f.keep _ _ _ _ h2 l,l,p.mono f⟩⟩
def Sl.up(f:V<=wm')(s:Sl e V h a c xs):Sl e wm' h a c xs:=⟨s.max,s.cap,s.nl,s.mem.imp id fun⟨i,o,cs,own,z,h1,h2,p,l⟩=>⟨i,o,cs,own,z,h1,h2,p.imp (fun x=>by omega) id,l.up f⟩⟩
def Src.sl(s:Src e V h a c xs)(hw:V<=h.size):Sl e h.size h a c xs:=⟨s.max,s.cap,s.nl,s.mem.imp id fun⟨i,o,cs,own,z,h1,h2,l⟩=>⟨i,o,cs,own,z,h1,h2,.inl (Y8 h2 rfl),l.up hw⟩⟩
def Sl.nil:Sl e V h none 0 ([]:U α):=⟨by simp,by simp,.inl ⟨rfl,rfl⟩,.inl rfl⟩
def Kg.nil:Kg e V lo h none 0 ([]:U α):=⟨by simp,.inl ⟨rfl,rfl,rfl⟩⟩
def Uh(a:O Addr)(i:Nat):Prop:=∃o,a=some ⟨i,o,none⟩
def Src.at_{k:Int}{x:α}(s:Src e V h a c xs)(l:Yl xs k=some x):∃i o q,a=some ⟨i,o,none⟩/\At h i (o+k.toNat*e.sz) (e.sh q x)/\e.F V h q x:=by
 have⟨h1,h2,h3⟩:=ZbA l;rcases s.mem with z|⟨i,o,cs,own,z,q1,q2,q3⟩
 .subst z;simp at h2
 have⟨q,g1,g2⟩:=q3.get _ _ h3;refine⟨i,o,q,q1,⟨cs,own,z,q2,by rw[e.len];exact g1,?_⟩,g2⟩;rw[e.len];have:=q3.len;have:(k.toNat+1)*e.sz<=xs.length*e.sz:=Gy _ h2;rw[GZ]at this;omega
def Sl.at_{k:Int}{x:α}(s:Sl e V h a c xs)(l:Yl xs k=some x):∃i o q,a=some ⟨i,o,none⟩/\At h i (o+k.toNat*e.sz) (e.sh q x)/\Stb V h i/\e.F V h q x:=by
 have⟨h1,h2,h3⟩:=ZbA l;rcases s.mem with z|⟨i,o,cs,own,z,q1,q2,q4,q3⟩
 .subst z;simp at h2
 have⟨q,g1,g2⟩:=q3.get _ _ h3;refine⟨i,o,q,q1,⟨cs,own,z,q2,by rw[e.len];exact g1,?_⟩,q4.imp id (fun z=>by rw[q2];exact z),g2⟩;rw[e.len];have:=q3.len;have:(k.toNat+1)*e.sz<=xs.length*e.sz:=Gy _ h2;rw[GZ]at this;omega
def Qh(k:IntKind):U8 Int where
 sz:=1
 pos:=Nat.one_pos
 Par:=Unit
 dflt:=()
 sh:=fun _ x=>[.int k x]
 len:=fun _ _=>rfl
 one:=fun _ _=>rfl
 F:=fun _ _ _ _=>True
 mono:=fun _ x=>x
 up:=fun _ x=>x
def ZH:U8 Y where
 sz:=1
 pos:=Nat.one_pos
 Par:=Unit
 dflt:=()
 sh:=fun _ x=>[.string x]
 len:=fun _ _=>rfl
 one:=fun _ _=>rfl
 F:=fun _ _ _ _=>True
 mono:=fun _ x=>x
 up:=fun _ x=>x
def Yh{l:Type}(e:U8 l):U8 (U l) where
 sz:=1
 pos:=Nat.one_pos
 Par:=O Addr×Nat
 dflt:=(none,0)
 sh:=fun p x=>[.slice p.1 x.length p.2]
 len:=fun _ _=>rfl
 one:=fun _ _=>rfl
 F:=fun V h p x=>Sl e V h p.1 p.2 x
 mono:=fun f x=>x.mono f
 up:=fun f x=>x.up f
end
section
variable{X:Ctx}{n V:Nat}{rd:O Nat}{s:Fs}{Q:XX->Fs->Prop}
def ZZf(fr:Fr)(d:Nat)(v:N):Fr.at (Tr.set fr d v) d=v:=by rw[at_set,if_pos rfl]
def Zj{fr:Fr}{d t:Nat}{v w:N}(hn:Nat.beq t d=false)(k:Fr.at fr t=v):Fr.at (Tr.set fr d w) t=v:=by rw[at_set,if_neg (fun e=>by rw[e,Nat.beq_refl]at hn;cases hn)];exact k
def Z5{fr:Fr}{a b t:Nat}{v x y:N}(hn:(Nat.beq t a||Nat.beq t b)=false)(k:Fr.at fr t=v):Fr.at (Tr.set (Tr.set fr b y) a x) t=v:=by rw[Jx]at hn;exact Zj hn.1 (Zj hn.2 k)
def Yy{fr:Fr}{a b c d t:Nat}{v x y z w:N}(hn:((Nat.beq t a||Nat.beq t b)||(Nat.beq t c||Nat.beq t d))=false)(k:Fr.at fr t=v):Fr.at (Tr.set (Tr.set (Tr.set (Tr.set fr d w) c z) b y) a x) t=v:=by rw[Jx]at hn;exact Z5 hn.1 (Z5 hn.2 k)
def Xe{fr:Fr}{a b c d p l c' h t:Nat}{v x y z w A r q w':N}(hn:(((Nat.beq t a||Nat.beq t b)||(Nat.beq t c||Nat.beq t d))||((Nat.beq t p||Nat.beq t l)||(Nat.beq t c'||Nat.beq t h)))=false)(k:Fr.at fr t=v):
 Fr.at (Tr.set (Tr.set (Tr.set (Tr.set (Tr.set (Tr.set (Tr.set (Tr.set fr h w') c' q) l r) p A) d w) c z) b y) a x) t=v:=by
 rw[Jx]at hn;exact Yy hn.1 (Yy hn.2 k)
def fh{fr:Fr}{d:Nat}{v:N}:Fr.at (Tr.set fr d v) d=v:=ZZf _ _ _
def Zu{fr:Fr}{t:Nat}{v:N}(h:fr.at t=v)(l:X4 v=false):YI fr (.tmp t)=some v:=by rw[Zj1,h,l];rfl
def XT{fr:Fr}{t:Nat}{c:Z}{v:N}(h:fr.at t=cond c v undef)(p:X4 v=false):c=true->YI fr (.tmp t)=some v:=fun l=>by
 rw[Zj1,h,l,Cq1,p];rfl
def JS{fr:Fr}{v:N}(h:plain v=true):YI fr (.const v)=some v:=by rw[Zzl,h];rfl
def ZD4{fr:Fr}{t:Nat}{c b:Z}(h:fr.at t=cond c (.bool b) undef):YI fr (.tmp t)=some (cond c (.bool b) undef):=by rw[Zj1,h];cases c<;>rfl
def ZKx{fr:Fr}{t:Nat}{a c b:Z}(h:fr.at t=cond (a&&c) (.bool b) undef)(l:a=true):YI fr (.tmp t)=some (cond c (.bool b) undef):=by subst l;rw[Zj1,h];cases c<;>rfl
def ZVO{h β:Type}(I:h->Fs->Prop)(j:h->O β)(r:β)(Q:XX->Fs->Prop):XX->Fs->Prop:=fun e s=>
 match e with|.normal=>∃a,j a=some r/\I a s|e=>Q e s
structure Y1{α β:Type}(I:α->Fs->Prop)(j:α->Option β)(r:β)(Q:XX->Fs->Prop)(e:XX)(s:Fs):Prop where
 out:ZVO I j r Q e s
def Y1.YC{l β:Type}{I:l->Fs->Prop}{j:l->O β}{r:β}(a:l)(h:j a=some r)(i:I a s):Y1 I j r Q .normal s:=⟨a,h,i⟩
def Y1.ret{l β:Type}{I:l->Fs->Prop}{j:l->O β}{r:β}(h:Q .ret s):Y1 I j r Q .ret s:=⟨h⟩
def Y1.panic{l β:Type}{I:l->Fs->Prop}{j:l->O β}{r:β}{v:N}(h:Q (.panic v) s):Y1 I j r Q (.panic v) s:=⟨h⟩
def WC.Zbm{p β:Type}{a b:Code}{r:β}(I:p->Fs->Prop)(j:p->O β)(k:∀x l,j x=some r->I x l->WC X n V rd b l Q)(h:WC X n V rd a s (Y1 I j r Q)):WC X n V rd (.seq a b) s Q:=by refine WC.seq (h.mono fun e l q=>⟨?_⟩);have q:=q.out;cases e with|normal=>have⟨x,h1,h2⟩:=q;exact k x l h1 h2|_=>exact q
def WC.UZ{c:V0}{a b:Code}{t:Z}{fr:Fr}{ds:U V7}{h:H}(l:YI fr c=some (.bool t))(h1:t=true->WC X n V rd a ⟨fr,ds,h,none⟩ Q)(h2:t=false->WC X n V rd b ⟨fr,ds,h,none⟩ Q):WC X n V rd (.cond c a b) ⟨fr,ds,h,none⟩ Q:=WC.cond (s:=⟨fr,ds,h,none⟩) l h1 h2
def WC.Zbg{c:V0}{a b:Code}{t:Z}{fr:Fr}{ds:U V7}{h:H}(p:YI fr c=some (.bool t))(l:t=true)(k:WC X n V rd a ⟨fr,ds,h,none⟩ Q):WC X n V rd (.cond c a b) ⟨fr,ds,h,none⟩ Q:=WC.Zn5 (s:=⟨fr,ds,h,none⟩) p l k
def WC.ZaI{c:V0}{a b:Code}{t:Z}{fr:Fr}{ds:U V7}{h:H}(p:YI fr c=some (.bool t))(l:t=false)(k:WC X n V rd b ⟨fr,ds,h,none⟩ Q):WC X n V rd (.cond c a b) ⟨fr,ds,h,none⟩ Q:=WC.Zhb (s:=⟨fr,ds,h,none⟩) p l k
def WL.lift{h β:Type}{c:Code}{body:h->(h->O β)->O β}{r:β}{F:Nat}{a:h}(t:loop F body a=some r)(I:h->Fs->Prop)(l:I a s)
 (round:∀(next:h->O β) a s,(∀q p,next q=some r->I q p->WL X n V rd c p Q)->body a next=some r->I a s->WC X n V rd c s (ZQ X n V rd c Q)):WL X n V rd c s Q:=by
 induction F generalizing a s with|zero=>cases t|succ F ih=>exact WL.step (round _ _ _ (fun q p h1 h2=>ih h1 h2) t l)
section
variable{h:H}{ev:V0->O N}{d:O Tmp}{ty:J}{p:String}{af:V5 Edge}{g:O (Nat×Z)}
def Z0{x:V0}{t:J}{b o l j:Nat}{vs:U N}{v:N}(r:YV X.P t=some false)(q:ev x=some (.pointer (some ⟨b,l,none⟩)))(A:At h b o vs)(y:l=o+j)(hv:vs[j]? =some v):
 XM X h ev ⟨d,.load t x,ty,p,af,g⟩=some (.val v,.none):=by
 have⟨cs,own,z,h1,h2⟩:=A.cell hv;subst y;exact ZEv r q h1 h2
def Yo{x:V0}{t:J}{b o l j sz:Nat}{vs ws:U N}(r:YV X.P t=some true)(y:YO X.P t=some sz)(q:ev x=some (.pointer (some ⟨b,l,none⟩)))(C:At h b o vs)(A:l=o+j)(B:Nat.ble (j+sz) vs.length=true)(hv:(vs.drop j).take sz=ws):
 XM X h ev ⟨d,.load t x,ty,p,af,g⟩=some (.val (.agg ws.toArray),.none):=by
 have⟨cs,own,z,h1,h2,h3⟩:=C.part (Nl0 B) hv;subst A;exact ZEu r y q h1 h2 h3
def ZVs{l:Type}{xs:U l}{v:l}{x y:V0}{t e:J}{sz b o c:Nat}{a:O Addr}{k:Int}(hu:X.P.underlying t=some (.slice e))(A:YO X.P e=some sz)(r:ev x=some (.slice a xs.length c))(q:ev y=some (V9 k))(C:a=some ⟨b,o,none⟩)(B:Yl xs k=some v):
 XM X h ev ⟨d,.indexAddr t x y,ty,p,af,g⟩=some (.val (.pointer (some ⟨b,o+k.toNat*sz,none⟩)),.none):=by
 have⟨h1,h2,_⟩:=ZbA B;subst C;exact ZPq hu A r q h1.symm h2
def Zvi{h:BinOp}{t:J}{P:V2}{x y:V0}{a b c:Int}(h1:h=.add/\c=a+b\/h=.sub/\c=a-b\/h=.mul/\c=a*b):X9 P h t x y (V9 a) (V9 b)=some (.val (V9 (XD c)),.none):=Zvk h1
def ZiA{t:J}{P:V2}{x y:V0}{a b:Int}:X9 P .add t x y (V9 a) (V9 b)=some (.val (V9 (XD (a+b))),.none):=Zvi (.inl ⟨rfl,rfl⟩)
def Zzn{t:J}{P:V2}{x y:V0}{a b:Int}:X9 P .sub t x y (V9 a) (V9 b)=some (.val (V9 (XD (a-b))),.none):=Zvi (.inr (.inl ⟨rfl,rfl⟩))
def Zzv{t:J}{P:V2}{x y:V0}{a b:Int}:X9 P .mul t x y (V9 a) (V9 b)=some (.val (V9 (XD (a*b))),.none):=Zvi (.inr (.inr ⟨rfl,rfl⟩))
end
def Sl.atG{l:Type}{e:U8 l}{V:Nat}{h:H}{a:O Addr}{c:Nat}{xs:U l}{k:Int}{x:l}{g:Z}(s:g=true->Sl e V h a c xs)(p:g=true->Yl xs k=some x):
 ∃i o q,g=true->(a=some ⟨i,o,none⟩/\At h i (o+k.toNat*e.sz) (e.sh q x)/\Stb V h i/\e.F V h q x):=by
 cases g with
 | false=>exact⟨0,0,e.dflt,fun z=>by cases z⟩
 | true=>have⟨i,o,q,z⟩:=(s rfl).at_ (p rfl);exact⟨i,o,q,fun _=>z⟩
def Src.atG{l:Type}{e:U8 l}{V:Nat}{h:H}{a:O Addr}{c:Nat}{xs:U l}{k:Int}{x:l}{g:Z}(s:g=true->Src e V h a c xs)(p:g=true->Yl xs k=some x):
 ∃i o q,g=true->(a=some ⟨i,o,none⟩/\At h i (o+k.toNat*e.sz) (e.sh q x)/\e.F V h q x):=by
 cases g with
 | false=>exact⟨0,0,e.dflt,fun z=>by cases z⟩
 | true=>have⟨i,o,q,z⟩:=(s rfl).at_ (p rfl);exact⟨i,o,q,fun _=>z⟩
abbrev WR(X:Ctx)(f:V3)(args:V5 N)(V:Nat)(h:H)(R:N->H->Prop):Prop:=WF X f args V h (fun e l=>∃v,e=.ret v/\R v l)
def WF.ZRa{f:V3}{args:V5 N}{h:H}{v:N}(l:plain v=true)(k:WR X f args h.size h (fun v' _=>v'=v)):Pure X f args h v:=
 WF.pure l (k.mono fun e p ⟨v',h1,h2⟩=>by rw[h1,h2])
end
section
variable{X:Ctx}{n V:Nat}{rd:O Nat}{Q:XX->Fs->Prop}
variable{ops:V5 Oper}{l:U Oper}{fr:Fr}{ds:U V7}{h:H}{d:Nat}{ty:J}{p:String}{af:V5 Edge}{g:O (Nat×Z)}
section
variable{α:Type}{e:U8 α}{lo:Nat}{h':H}
def Jg.nil{V:Nat}{cs:U N}{o:Nat}(l:o<=cs.length):Jg e V h cs o ([]:U α):=⟨by simpa using l,fun k x p=>by simp at p⟩
def Jg.ZGn{V:Nat}:∀(l:U (e.Par×α)),(∀q∈l,e.F V h q.1 q.2)->Jg e V h (l.flatMap fun q=>e.sh q.1 q.2) 0 (l.map (·.2)):=by
 intro l t
 have y:∀(l:U (e.Par×α)),(l.flatMap fun q=>e.sh q.1 q.2).length=l.length*e.sz:=by
  intro l;induction l with|nil=>simp|cons q l ih=>rw[Kf,Ks,ih,e.len,Kx,GZ];omega
 refine⟨by rw[y];simp,?_⟩
 induction l with|nil=>intro k x p;simp at p|cons q l ih=>
   intro k x p;cases k with
   | zero=>
     simp at p;subst p;refine⟨q.1,?_,t q (by simp)⟩;rw[Kf,Nat.zero_mul,Nat.add_zero,List.drop_zero,List.take_append_of_le_length (by rw[e.len];exact K1 _),List.take_of_length_le (by rw[e.len];exact K1 _)]
   | succ k=>
     have⟨q',h1,h2⟩:=ih (fun q r=>t q (by simp[r])) k x (by simpa using p);refine⟨q',?_,h2⟩;rw[<-h1,Kf,List.drop_append,e.len,List.drop_of_length_le (by rw[e.len,GZ];omega),Jn];congr 2;rw[GZ];omega
def Jg.cut{V:Nat}{cs:U N}{o:Nat}{xs:U α}(a:Jg e V h cs o xs):Jg e V h ((cs.drop o).take (xs.length*e.sz)) 0 xs:=by have r:=a.len;refine⟨by rw[Gl,GD];omega,fun k x p=>?_⟩;have⟨q,h1,h2⟩:=a.get k x p;refine⟨q,?_,h2⟩;have l:k<xs.length:=(Li0 p).1;have:(k+1)*e.sz<=xs.length*e.sz:=Gy _ l;rw[GZ]at this;rw[<-h1,List.drop_take,List.take_take,List.drop_drop,Gc];congr 1;omega
def Jg.ZQP{V:Nat}{cs:U N}{o:Nat}{xs:U α}(r:o+xs.length*e.sz<=cs.length)(a:Jg e V h ((cs.drop o).take (xs.length*e.sz)) 0 xs):Jg e V h cs o xs:=by refine⟨r,fun k x p=>?_⟩;have⟨q,h1,h2⟩:=a.get k x p;refine⟨q,?_,h2⟩;have l:k<xs.length:=(Li0 p).1;have:(k+1)*e.sz<=xs.length*e.sz:=Gy _ l;rw[GZ]at this;rw[<-h1,List.drop_take,List.take_take,List.drop_drop,Gc];congr 1;omega
def Jg.append{V:Nat}{YF bs:U N}{xs ys:U α}(r:YF.length=xs.length*e.sz)(a:Jg e V h YF 0 xs)(b:Jg e V h bs 0 ys):Jg e V h (YF++bs) 0 (xs++ys):=by
 have h1:=a.len;have h2:=b.len;refine⟨by rw[Ks,Ks,Nat.add_mul];omega,fun k x p=>?_⟩;rw[Gc];by_cases l:k<xs.length;.rw[GT l]at p;have⟨q,q1,q2⟩:=a.get k x p;refine⟨q,?_,q2⟩;have:(k+1)*e.sz<=xs.length*e.sz:=Gy _ l;rw[GZ]at this;rw[Gc]at q1;rw[<-q1,List.drop_append,List.take_append_of_le_length (by rw[GD];omega)]
 rw[GW Vb]at p;have⟨q,q1,q2⟩:=b.get _ x p;refine⟨q,?_,q2⟩;have:xs.length*e.sz<=k*e.sz:=Gy _ Vb;rw[Gc]at q1;rw[<-q1,List.drop_append,List.drop_of_length_le Vb,Jn,r,Nat.sub_mul]
def Jg.one{V:Nat}{cs:U N}{xs:U α}(t:cs.length=xs.length*e.sz)(a:Jg e V h cs 0 xs):cs.all Value.oneCell'=true:=by rw[Q2];intro v hv;have⟨j,hj⟩:=Gn.1 hv;have p:j<cs.length:=(Li0 hj).1;have r:=e.pos;have x:j / e.sz<xs.length:=Nat.div_lt_of_lt_mul (by rw[Nat.mul_comm,<-t];exact p);have⟨q,q1,_⟩:=a.get (j / e.sz) xs[j / e.sz] (Q4 x);have l:=e.one q xs[j / e.sz];rw[Q2]at l;refine l v ?_;rw[<-q1,Gn];refine⟨j % e.sz,?_⟩;rw[GB (Nat.mod_lt _ r),Gz,Gc];have:j / e.sz*e.sz+j % e.sz=j:=Nat.div_add_mod' j e.sz;rw[this];exact hj
def ZbO(h:H)(i o m c sz:Nat):Go.ZU.reads h (.slice (some ⟨i,o,none⟩) m c) sz=bif Nat.beq m 0 then some [] else
 match h.at i with|.row cs _ _=>bif Nat.ble (o+m*sz) cs.length then some ((cs.drop o).take (m*sz)) else none|_=>none:=by cases i<;>cases o<;>rfl
def Src.reads{V:Nat}{a:O Addr}{c:Nat}{xs:U α}(s:Src e V h a c xs):∃vs,reads h (.slice a xs.length c) e.sz=some vs/\vs.length=xs.length*e.sz/\Jg e V h vs 0 xs:=by
 rcases s.mem with z|⟨i,o,cs,own,z,h1,h2,h3⟩
 .subst z;refine⟨[],?_,by simp,Jg.nil (by simp)⟩;rcases s.nl with⟨rfl,rfl⟩|⟨rfl,rfl⟩|⟨i,o,rfl⟩
  .rfl
  .rfl
  rw[ZbO];rfl
 subst h1;by_cases l:xs=[];.subst l;exact⟨[],by rw[ZbO];rfl,by simp,Jg.nil (by simp)⟩
 have q:=h3.len;have p:0<xs.length:=List.length_pos_iff.2 l;refine⟨(cs.drop o).take (xs.length*e.sz),?_,by rw[Gl,GD];omega,h3.cut⟩;rw[ZbO];have t:Nat.beq xs.length 0=false:=by rw[GS];intro r;have:=Nb0 r;omega
 simp only[t,Cq0,h2];rw[Nm0 q];rfl
def Kg.mk'{V:Nat}{h:H}{xs:U α}{vs:U N}{i c:Nat}(q:xs.length<=9223372036854775807)(l:lo<=i)(p:h.at i=.row vs true e.sz)(t:xs.length<=c / 2)(r:(c / 2)*e.sz<=vs.length)(x:Jg e V h vs 0 xs):Kg e V lo h (some ⟨i,0,none⟩) c xs:=
 ⟨q,.inr ⟨i,0,vs,rfl,l,p,t,by omega,x⟩⟩
def Zd4(P:V2)(ts:V5 J)(sz h:Nat):Prop:=∃l z,Zag P ts=some (l,sz,h,z)
def ZPu{K:Prop}{J':N->H->Prop}{ts:V5 J}{x y:V0}{by_:Nat}{a a2:O Addr}{c c2:Nat}{xs ys zs:U α}(lo:Nat)(k':∀v E h1,XM X h (YI fr) ⟨some d,.call {callee:=.builtin .append,args:=#[x,y],argTypes:=ts},ty,p,af,g⟩=some (.val v,E)->E.apply V h=some h1->J' v h1->K)
 (C:Zd4 X.P ts e.sz by_) (hw:V<=lo) (hlo:lo<=h.size) (hx:YI fr x=some (.slice a xs.length c)) (hy:YI fr y=some (.slice a2 ys.length c2)) (so:Kg e V lo h a c xs) (sr:Src e V h a2 c2 ys) (ha:app by_ xs ys=some zs)
 (k:∀a' c' h',Up lo (Uh a) h h'->Kg e V lo h' a' c' zs->(∀i,Uh a' i->Uh a i\/i=h.size)->J' (.slice a' zs.length c') h'):K:=by
 obtain⟨rfl,S⟩:=ZEx ha;obtain⟨el,z,C⟩:=C;obtain⟨new,n1,n2,n3⟩:=sr.reads;have n4:=n3.one n2;have hpos:=e.pos;have hev:evs (YI fr) (#[x,y]:V5 V0).toList=some [.slice a xs.length c,.slice a2 ys.length c2]:=Zb hx (Zb hy Zd);have L:Ji (.slice a2 ys.length c2)=ys.length:=rfl
 have G:∀(v:N)(E:Eff),Jy X.P h ts (.slice a xs.length c) (.slice a2 ys.length c2)=some (v,E)->XM X h (YI fr) ⟨some d,.call {callee:=.builtin .append,args:=#[x,y],argTypes:=ts},ty,p,af,g⟩=some (.val v,E):=by
  intro v E hE;rw[U4,hev];show vE (Jy X.P h ts (.slice a xs.length c) (.slice a2 ys.length c2))=_;rw[hE];rfl
 have ZS2:by_=0\/(2*(xs.length+ys.length)+1000)<=2 ^ 47:=by
  rcases Nat.eq_zero_or_pos by_ with z|z
  ·exact .inl z
  right;have:(2*(xs.length+ys.length)+1000)*1<=(2*(xs.length+ys.length)+1000)*by_:=Nat.mul_le_mul_left _ z;rw[Nat.mul_one]at this;exact KK this S
 have hby:1<=by_:=by
  unfold Zag at C;split at C
  ·split at C
   ·split at C
    ·rename_i sz0 by0 z0 hs l hz;cases hc:(Nat.ble 1 sz0&&Nat.ble 1 by0&&Nat.beq z0.cells.toList.length sz0)<;>rw[hc]at C<;>simp at C
     obtain⟨_,_,rfl,_⟩:=C;rw[Ba0,Ba0]at hc;exact Nl0 hc.1.2
    cases C
   cases C
  cases C
 have F:(xs++ys).length<=9223372036854775807:=by
  rw[Ks];rcases ZS2 with z|z<;>omega
 have B:(xs++ys).length=xs.length+ys.length:=Ks;rcases so.mem with⟨rfl,rfl,rfl⟩|⟨i,o,cs,rfl,t,D,hc1,hc2,Q⟩
 ·-- of nothing
  by_cases I:ys=[]
  ·subst I;refine k' _ (.none) _ (G (V8) _ ?_) rfl ?_
   ·unfold Jy;rw[C];dsimp only;rw[n1];rfl
   exact k none 0 h ⟨K1 _,fun _ _ _=>rfl,fun i l=>by obtain⟨o,l⟩:=l;cases l⟩ Kg.nil (fun i l=>by obtain⟨o,l⟩:=l;cases l)
  have hyl:0<ys.length:=List.length_pos_iff.2 I;refine k' _ (.new (.row ([]++new) true e.sz)) _ (G (.slice (some ⟨h.size,0,none⟩) ([]++ys).length (2*([]++ys).length+1)) _ ?_) rfl ?_
  ·unfold Jy;rw[C];dsimp only;rw[n1];dsimp only;rw[L];have b1:Nat.ble (([]:U α).length+ys.length) (0 / 2)=false:=by rw[GS];intro q;have q:=Nl0 q;rw[GK,Gc,Nat.zero_div]at q;omega
   rw[b1,Nm0 S,n4];simp only[Cq0,Bool.and_self,Cq1];have b2:reads h (.slice none ([]:U α).length 0) e.sz=some []:=rfl;rw[b2];simp
  refine k _ _ _ ⟨Nat.le_succ _,fun i C _=>KD C _,fun i l=>by obtain⟨o,l⟩:=l;cases l⟩ ?_ (fun i l=>by obtain⟨o,l⟩:=l;cases l;exact .inr rfl);refine Kg.mk' F hlo (Jm h _) (by simp only[Jn];omega) ?_ ?_
  ·simp only[Jn];rw[n2];have:(2*ys.length+1) / 2=ys.length:=Vb
   rw[this];omega
  simp only[Jn];exact n3.mono ((Up.push lo h _).fz hw)
 have A:(h.at i).own=true:=by rw[D];rfl
 have hil:i<h.size:=Y8 D rfl;have hxl:o+xs.length*e.sz<=cs.length:=Q.len;by_cases r:xs.length+ys.length<=c / 2
 ·-- there is room
  by_cases I:ys=[]
  ·subst I;refine k' _ (.none) _ (G (.slice (some ⟨i,o,none⟩) xs.length c) _ ?_) rfl ?_
   ·unfold Jy;rw[C];dsimp only;rw[n1];dsimp only;rw[L,Nm0 r];rfl
   have:=k (some ⟨i,o,none⟩) c h ⟨K1 _,fun _ _ _=>rfl,fun j l=>by obtain⟨o',l⟩:=l;cases l;exact⟨t,A⟩⟩ (by simpa using so) (fun j l=>.inl l)
   simpa using this
  have hyl:0<ys.length:=List.length_pos_iff.2 I
  have hfit:o+xs.length*e.sz+new.length<=cs.length:=by
   rw[n2];have:(xs.length+ys.length)*e.sz<=c / 2*e.sz:=Gy _ r;rw[Nat.add_mul]at this;omega
  refine k' _ (.upd i (.row (splice cs (o+xs.length*e.sz) new) true e.sz)) (h.put i (.row (splice cs (o+xs.length*e.sz) new) true e.sz)) (G (.slice (some ⟨i,o,none⟩) (xs++ys).length c) _ ?_) ?_ ?_
  ·unfold Jy;rw[C];dsimp only;rw[n1];dsimp only;rw[L,Nm0 r];have b1:Nat.beq ys.length 0=false:=by rw[GS];intro q;have:=Nb0 q;omega
   rw[b1,D];simp only[Cq1,Cq0];rw[Nm0 hfit,n4,B];rfl
  ·show(bif Nat.ble V i&&(h.at i).own then some (h.put i _) else none)=_;rw[A,Nm0 (KK hw t)];rfl
  have hu:Up lo (Uh (some ⟨i,o,none⟩)) h (h.put i (.row (splice cs (o+xs.length*e.sz) new) true e.sz)):=
   ⟨K1 _,fun j _ hn=>XG (fun q=>hn ⟨o,by rw[q]⟩) _,fun j l=>by obtain⟨o',l⟩:=l;cases l;exact⟨t,A⟩⟩
  refine k _ _ _ hu ⟨F,.inr ⟨i,o,_,rfl,t,Yp hil _,by rw[B];exact r,?_,?_⟩⟩ (fun j l=>.inl l)
  ·simp only[splice,Ks,Gl,GD];omega
  refine Jg.ZQP ?_ (Jg.mono (hu.fz hw) ?_)
  ·simp only[splice,Ks,Gl,GD,Nat.add_mul,<-n2];omega
  have e1:((splice cs (o+xs.length*e.sz) new).drop o).take ((xs++ys).length*e.sz)=(cs.drop o).take (xs.length*e.sz)++new:=by
   have l1:(cs.take (o+xs.length*e.sz)).length=o+xs.length*e.sz:=by rw[Gl];omega
   unfold splice;rw[G9,List.drop_append_of_le_length Vb,B,Nat.add_mul,<-n2,List.take_append];have l2:((cs.take (o+xs.length*e.sz)).drop o).length=xs.length*e.sz:=by rw[GD,l1];omega
   rw[l2,List.take_of_length_le (by rw[l2];omega),List.drop_take];congr 1
   ·congr 1;omega
   have:xs.length*e.sz+new.length-xs.length*e.sz=new.length:=Vb
   rw[this,List.take_append_of_le_length Vc,List.take_of_length_le Vc]
  rw[e1];exact Jg.append (by rw[Gl,GD];omega) Q.cut n3
 -- it grows
 have b0:Nat.ble (xs.length+ys.length) (c / 2)=false:=by rw[GS];intro q;exact r (Nl0 q)
 have hold:reads h (.slice (some ⟨i,o,none⟩) xs.length c) e.sz=some ((cs.drop o).take (xs.length*e.sz)):=by
  rw[ZbO];cases l:Nat.beq xs.length 0 with
  | true=>
    have:=Nb0 l;rw[this];simp
  | false=>
    simp only[Cq0,D];rw[Nm0 hxl];rfl
 have W:((cs.drop o).take (xs.length*e.sz)).length=xs.length*e.sz:=by rw[Gl,GD];omega
 have hrl:((cs.drop o).take (xs.length*e.sz)++new).length=(xs++ys).length*e.sz:=by rw[Ks,W,n2,B,Nat.add_mul]
 have T:(2*(xs++ys).length+1) / 2=(xs++ys).length:=Vb
 cases ZHa:Nat.beq (c % 2) 0 with
 | true=>
   refine k' _ (.new (.row ((cs.drop o).take (xs.length*e.sz)++new) true e.sz)) _ (G (.slice (some ⟨h.size,0,none⟩) (xs++ys).length (2*(xs++ys).length+1)) _ ?_) rfl ?_
   ·unfold Jy;rw[C];dsimp only;rw[n1];dsimp only;rw[L,b0,Nm0 S,n4,hold,ZHa,B];rfl
   refine k _ _ _ ⟨Nat.le_succ _,fun j hj _=>KD hj _,fun j l=>by obtain⟨o',l⟩:=l;cases l;exact⟨t,A⟩⟩ ?_ (fun j l=>by obtain⟨o',l⟩:=l;cases l;exact .inr rfl);refine Kg.mk' F hlo (Jm h _) Vb (by rw[T,hrl];exact K1 _) ?_;exact(Jg.append W Q.cut n3).mono ((Up.push lo h _).fz hw)
 | false=>
   refine k' _ (.grow i (.row ((cs.drop o).take (xs.length*e.sz)++new) true e.sz)) ((h.put i .dead).push (.row ((cs.drop o).take (xs.length*e.sz)++new) true e.sz)) (G (.slice (some ⟨h.size,0,none⟩) (xs++ys).length (2*(xs++ys).length+1)) _ ?_) ?_ ?_
   ·unfold Jy;rw[C];dsimp only;rw[n1];dsimp only;rw[L,b0,Nm0 S,n4,hold,ZHa];simp only[Cq0,Bool.and_self,Cq1];rw[D];dsimp only;rw[Nat.beq_refl,B];rfl
   ·show(bif Nat.ble V i&&(h.at i).own&&true then some ((h.put i .dead).push _) else none)=_;rw[A,Nm0 (KK hw t)];rfl
   have hu:Up lo (Uh (some ⟨i,o,none⟩)) h ((h.put i .dead).push (.row ((cs.drop o).take (xs.length*e.sz)++new) true e.sz)):=
    ⟨Nat.le_succ _,fun j hj hn=>by rw[KD (by simpa using hj),XG (fun q=>hn ⟨o,by rw[q]⟩)],fun j l=>by obtain⟨o',l⟩:=l;cases l;exact⟨t,A⟩⟩
   refine k _ _ _ hu ?_ (fun j l=>by obtain⟨o',l⟩:=l;cases l;exact .inr rfl);refine Kg.mk' F hlo (by have:=Jm (h.put i .dead) (.row ((cs.drop o).take (xs.length*e.sz)++new) true e.sz);simpa using this) Vb (by rw[T,hrl];exact K1 _) ?_;exact(Jg.append W Q.cut n3).mono (hu.fz hw)
end
def Uh.none{i:Nat}:¬ Uh Option.none i:=fun⟨_,h⟩=>by cases h
def Q0.frozen{ρ:Ren}{w:V4}{b d:Nat}{l:Nat×Nat}{cs:U N}{o:Z}{z p:Nat}(h:Q0 ρ w b d l (.row cs o z)):Q0 ρ w b d l (.row cs false p):=by have⟨cc,el,fz,a,_,c,q⟩:=h;exact⟨cc,el,fz,a,(fun e=>by cases e),c,q⟩
def Rel.freeze{ρ:Ren}{h:H}{w:V4}{i:Nat}{cs:U N}{o:Z}{z:Nat}(q:h.at i=.row cs o z)(r:Rel ρ h w):Rel ρ (h.put i (.row cs false 0)) w:=by
 have y:=Y8 q rfl
 have l:∀j,(h.put i (.row cs false 0)).at j=if j=i then .row cs false 0 else h.at j:=fun j=>by
  by_cases e:j=i;.subst e;rw[Yp y,if_pos rfl]
  rw[XG e,if_neg e]
 refine⟨r.dom,fun j b d e=>?_,fun j k b d C B x p t=>?_⟩
 .rw[l];have:=r.obj j b d e;split;next x=>subst x;rw[q]at this;exact this.frozen
  exact this
 rw[l]at p t;refine r.inj j k b d C B x ?_ ?_
 .split at p;.cases p
  exact p
 split at t;next A=>subst A;rw[q];rfl
 exact t
def Stp.freeze{V:Nat}{ρ q:Ren}{h y:H}{w w':V4}{i:Nat}{cs:U N}{z:Nat}(hw:V<=i)(x:h.at i=.row cs true z)(a:Stp V ρ (h.put i (.row cs false 0)) w q y w'):Stp V ρ h w q y w':=by
 have D:=Y8 x rfl
 have p:∀j,(h.put i (.row cs false 0)).at j=if j=i then .row cs false 0 else h.at j:=fun j=>by
  by_cases e:j=i;.subst e;rw[Yp D,if_pos rfl]
  rw[XG e,if_neg e]
 have l:∀j,((h.put i (.row cs false 0)).at j).own=true->(h.at j).own=true:=fun j e=>by
  rw[p]at e;split at e;.cases e
  exact e
 refine⟨a.ext,a.size,fun j r=>?_,fun j r e=>l j (a.own j r e),fun j r e=>?_,a.os,a.tape,a.output,a.XH,fun b E t=>a.frame b E fun j d h1 h2 F=>t j d h1 h2 (l j F),fun j b d e I=>?_⟩;.rw[a.keep j r,p,if_neg Vb]
 .have:=a.live j r e;rw[p]at this;split at this;next G=>subst G;rw[x];rfl
  exact this
 have⟨h1,h2⟩:=a.Ud j b d e I;exact⟨h1,h2.imp id fun⟨k,K,C,B,A⟩=>⟨k,K,C,B,l k A⟩⟩
def WO.ZhZ{i:Nat}{cs:U N}{z:Nat}(hw:V<=i)(r:h.at i=.row cs true z)(k:WO X n V rd ops l ⟨fr,ds,h.put i (.row cs false 0),none⟩ Q):WO X n V rd ops l ⟨fr,ds,h,none⟩ Q:=by have⟨e,s',hq,hk⟩:=k;refine⟨e,s',hq,fun C ρ F a w q B x p=>hk C ⟨q.rel.freeze r,q.fr,q.ds⟩ (by simpa using B) x fun y A w' t=>p y A w' ?_⟩;have⟨ρ',h1,h2,h3⟩:=t;exact⟨ρ',h1,h2,h3.freeze hw r⟩
def WO.freeze{x:Type}{e:U8 x}{lo:Nat}{a:O Addr}{c:Nat}{xs:U x}(hw:V<=lo)(r:Kg e V lo h a c xs)(k:∀t,Up lo (Uh a) h t->Sl e V t a c xs->WO X n V rd ops l ⟨fr,ds,t,none⟩ Q):WO X n V rd ops l ⟨fr,ds,h,none⟩ Q:=by
 rcases r.mem with⟨rfl,rfl,rfl⟩|⟨i,o,cs,rfl,h1,h2,B,A,y⟩
 .exact k h ⟨K1 _,fun _ _ _=>rfl,fun i p=>by have⟨o,p⟩:=p;cases p⟩ Sl.nil
 have hu:Up lo (Uh (some ⟨i,o,none⟩)) h (h.put i (.row cs false 0)):=
  ⟨K1 _,fun j _ hn=>XG (fun q=>hn ⟨o,by rw[q]⟩) _,fun j p=>by have⟨o',p⟩:=p;cases p;exact⟨h1,by rw[h2];rfl⟩⟩
 exact WO.ZhZ (KK hw h1) h2 (k _ hu ⟨r.max,r.cap,r.nl,.inr ⟨i,o,cs,false,0,rfl,Yp (Y8 h2 rfl) _,.inr rfl,y.mono (hu.fz hw)⟩⟩)
def WC.ZhZ{r:Code}{i:Nat}{cs:U N}{z:Nat}(hw:V<=i)(q:h.at i=.row cs true z)(k:WC X n V rd r ⟨fr,ds,h.put i (.row cs false 0),none⟩ Q):WC X n V rd r ⟨fr,ds,h,none⟩ Q:=by have⟨e,s',hq,hk⟩:=k;refine⟨e,s',hq,fun ρ a w F y p t=>wpIn_mono (hk ρ a w F (by simpa using y) ⟨p.rel.freeze q,p.fr,p.ds⟩ t) ?_⟩;rintro A B w' ⟨l,h1,h2,x⟩;exact⟨l,h1,h2,x.freeze hw q⟩
def WC.freeze{x:Code}{t:Type}{e:U8 t}{lo:Nat}{a:O Addr}{c:Nat}{xs:U t}(hw:V<=lo)(p:Kg e V lo h a c xs)(k:∀r,Up lo (Uh a) h r->Sl e V r a c xs->WC X n V rd x ⟨fr,ds,r,none⟩ Q):WC X n V rd x ⟨fr,ds,h,none⟩ Q:=by
 rcases p.mem with⟨rfl,rfl,rfl⟩|⟨i,o,cs,rfl,h1,h2,B,A,y⟩
 .exact k h ⟨K1 _,fun _ _ _=>rfl,fun i l=>by have⟨o,l⟩:=l;cases l⟩ Sl.nil
 have hu:Up lo (Uh (some ⟨i,o,none⟩)) h (h.put i (.row cs false 0)):=
  ⟨K1 _,fun j _ hn=>XG (fun q=>hn ⟨o,by rw[q]⟩) _,fun j l=>by have⟨o',l⟩:=l;cases l;exact⟨h1,by rw[h2];rfl⟩⟩
 exact WC.ZhZ (KK hw h1) h2 (k _ hu ⟨p.max,p.cap,p.nl,.inr ⟨i,o,cs,false,0,rfl,Yp (Y8 h2 rfl) _,.inr rfl,y.mono (hu.fz hw)⟩⟩)
end
section
variable{X:Ctx}{P:V2}
def ZeW{h β:Type}(s:Sem h)(f:h->Sem β):ZF P (s >>=f)=match ZF P s with|some (.ok a)=>ZF P (f a)|some (.error v)=>some (.error v)|none=>none:=by induction s with|pure a=>rfl|program k ih=>exact ih P|halt x=>cases x<;>rfl|load|store|new|shape|freeze|frozen|getObj|setObj|choose|sys|mark=>rfl
def prb{l β:Type}{s:Sem l}{f:l->Sem β}{a:l}(h:ZF P s=some (.ok a)):ZF P (s >>=f)=ZF P (f a):=by rw[ZeW,h]
def YW {t:J} {u:TypeDesc} (h:P.underlying t=some u):ZF P (underlying t)=some (.ok u):=by
 show ZF P (match P.underlying t with | some d=>pure d | none=>stuck "no such type")=_;rw [h];rfl
def eq_int {t:J} {k:IntKind} {a b:Int} {d:Nat} (hu:P.underlying t=some (.int k)):ZF P (Op.equalIn (d + 1) t (.int k a) (.int k b))=some (.ok (a==b)):=by
 unfold Op.equalIn;rw [prb (YW hu)];show ZF P (if k=k then pure (a==b) else stuck "==: kinds differ")=_;rw [if_pos rfl];rfl
def ZIy{t:J}{a b:Z}{d:Nat}(hu:P.underlying t=some .bool):ZF P (Op.equalIn (d+1) t (.bool a) (.bool b))=some (.ok (a==b)):=by unfold Op.equalIn;rw[prb (YW hu)];rfl
def ZOP{t:J}{a b:Y}{d:Nat}(hu:P.underlying t=some .string):ZF P (Op.equalIn (d+1) t (.string a) (.string b))=some (.ok (a==b)):=by unfold Op.equalIn;rw[prb (YW hu)];rfl
def Zee{t:J}{cs:V5 N}{off:Nat}{v:N}(h:YV P t=some false)(hv:cs[off]? =some v):ZF P (part t cs off)=some (.ok v):=by
 unfold YV at h;unfold part isAgg;cases hu:P.underlying t with|none=>rw[hu]at h;cases h|some u=>
   rw[hu]at h;rw[prb (a:=false)];.simp only[hv];rfl
   rw[prb (YW hu)];cases u<;>first|rfl | (cases h;done)
def FEq (P:V2) (d:Nat) (xs ys:V5 N):U Field ->U Z ->Prop
 | [],[]=>True
 | f::fl,b::bs=>(f.name ≠ "_" ∧∃ v w,ZF P (part f.type xs f.offset)=some (.ok v)∧ZF P (part f.type ys f.offset)=some (.ok w)∧ZF P (Op.equalIn d f.type v w)=some (.ok b))∧FEq P d xs ys fl bs
 | _,_=>False
def ZHD {d:Nat} {xs ys:V5 N}:∀ {fl:U Field} {bs:U Z},FEq P d xs ys fl bs ->
 ZF P (forIn fl ((none:O Z),()) fun f _=>if f.name ≠ "_" then do
  let a ← part f.type xs f.offset
  let b ← part f.type ys f.offset
  let r ← Op.equalIn d f.type a b
  if(!r)=true then pure (ForInStep.done (some false,())) else pure (ForInStep.yield (none,()))
  else pure (ForInStep.yield (none,())):Sem (O Z×Unit))=some (.ok (bif bs.all id then none else some false,())):=by
 intro fl
 induction fl with
 | nil=>
   intro bs h;cases bs with
   | nil=>rfl
   | cons=>exact h.elim
 | cons f fl ih=>
   intro bs h;cases bs with
   | nil=>exact h.elim
   | cons b bs=>
     obtain⟨⟨h1,v,w,h2,h3,h4⟩,h5⟩:=h;rw [List.forIn_cons,if_pos h1,ZeW,prb h2,prb h3,prb h4];cases b with
     | false=>rfl
     | true=>
       have:=ih h5;have e:(true::bs).all id=bs.all id:=by simp
       rw [e,← this];rfl
def ZyZ{t:J}{l:V5 Field}{xs ys:V5 N}{d:Nat}{bs:U Z}(hu:P.underlying t=some (.struct l))(h:P.stoodInHeld t=false)(p:FEq P d xs ys l.toList bs):
 ZF P (Op.equalIn (d+1) t (.agg xs) (.agg ys))=some (.ok (bs.all id)):=by
 unfold Op.equalIn;rw[prb (YW hu)];show ZF P (if P.stoodInHeld t=true then _ else _)=_;rw[h,if_neg (by simp)];dsimp only;have:=ZHD p;rw[<-Array.forIn_toList];rw[prb this];cases bs.all id<;>rfl
def Zss{t:J}{x y:V0}{xs ys:V5 N}{h:BinOp}(l:h=.eql\/h=.neq)(p:P.eqGuardType P.depth t=false):ZF P (eqGuard h t x y (.agg xs) (.agg ys))=some (.ok ()):=by
 rcases l with rfl|rfl
 .show ZF P (if(!P.eqGuardType P.depth t)=true then _ else _)=_;rw[p];rfl
 show ZF P (if(!P.eqGuardType P.depth t)=true then _ else _)=_;rw[p];rfl
def ZV1(P:V2)(t:J)(xs ys:U N)(b:Z):Prop:=P.eqGuardType P.depth t=false/\ZF P (Op.equal t (.agg xs.toArray) (.agg ys.toArray))=some (.ok b)
def ZEQ{t:J}{x y:V0}{xs ys:U N}{b:Z}(h:ZV1 P t xs ys b)(h1:xs.all scalar=true)(h2:ys.all scalar=true):X9 P .eql t x y (.agg xs.toArray) (.agg ys.toArray)=some (.val (.bool b),.none):=by
 have l:(plain (.agg xs.toArray)&&plain (.agg ys.toArray))=true:=by
  have q:plain (.agg xs.toArray)=xs.all scalar:=rfl;have p:plain (.agg ys.toArray)=ys.all scalar:=rfl;rw[q,p,h1,h2];rfl
 unfold X9;rw[l,Cq1];unfold Kr;rw[prb (Zss (.inl rfl) h.1)]
 have:ZF P (binOp .eql t (.agg xs.toArray) (.agg ys.toArray))=some (.ok (.bool b)):=by
  show ZF P (do pure (Value.bool (<-Op.equal t (.agg xs.toArray) (.agg ys.toArray))):Sem N)=_;rw[prb h.2];rfl
 rw[this];rfl
def QC{h:H}{t:J}{b o l j:Nat}{vs:U N}{v:N}(p:YV P t=some false)(r:At h b o vs)(q:l=o+j)(hv:vs[j]? =some v):K4 P h t (.pointer (some ⟨b,l,none⟩))=some v:=by have⟨cs,own,z,h1,h2⟩:=r.cell hv;subst q;exact Slc.load h1 p h2
def YL{h:H}{t:J}{b o l j sz:Nat}{vs ws:U N}(p:YV P t=some true)(q:YO P t=some sz)(y:At h b o vs)(r:l=o+j)(x:Nat.ble (j+sz) vs.length=true)(hv:(vs.drop j).take sz=ws):K4 P h t (.pointer (some ⟨b,l,none⟩))=some (.agg ws.toArray):=by have⟨cs,own,z,h1,h2,h3⟩:=y.part (Nl0 x) hv;subst r;exact Zoc p q h1 h2 h3
def Zl{fr:Fr}{h:H}:ZdR P fr h []=some []:=rfl
def Zp{fr:Fr}{h:H}{t:Nat}{v:N}{l:U ResultVar}{vs:U N}(hv:YI fr (.tmp t)=some v)(p:ZdR P fr h l=some vs):ZdR P fr h (.tmp t::l)=some (v::vs):=by have e:ZsW P fr h (.tmp t)=some v:=hv;simp only[ZdR,e,p]
def Ya{fr:Fr}{h:H}{a t:Nat}{p v:N}{l:U ResultVar}{vs:U N}(r:fr.at a=p)(hv:K4 P h t p=some v)(q:ZdR P fr h l=some vs):ZdR P fr h (.cell a t::l)=some (v::vs):=by
 have e:ZsW P fr h (.cell a t)=some v:=by show K4 P h t (fr.at a)=some v;rw[r];exact hv
 simp only[ZdR,e,q]
def Yk.XA{fn:Func}{R:N->H->Prop}{fr:Fr}{h:H}{wr:O Nat}{l:U ResultVar}{v:N}(p:fn.results.toList=l)(hv:ZdR X.P fr h l=some [v])(k:R v h):Yk X fn (fun e q=>∃v,e=.ret v/\R v q) .ret ⟨fr,[],h,wr⟩:=by refine⟨⟨rfl,v,?_,v,rfl,k⟩⟩;unfold Q9;dsimp only;rw[p,hv]
def Yk.gen{fn:Func}{R:N->H->Prop}{fr:Fr}{h:H}{wr:O Nat}{l:U ResultVar}{vs:U N}(p:fn.results.toList=l)(hv:ZdR X.P fr h l=some vs)(q:Nat.beq vs.length 1=false)(k:R (.tuple vs.toArray) h):Yk X fn (fun e r=>∃v,e=.ret v/\R v r) .ret ⟨fr,[],h,wr⟩:=by refine⟨⟨rfl,_,?_,_,rfl,k⟩⟩;unfold Q9;dsimp only;rw[p,hv];match vs,q with|[],_=>rfl|[_],h=>cases h|_::_::_,_=>rfl
def Yk.YC{fn:Func}{R:WJ->H->Prop}{s:Fs}(k:Yk X fn R .ret s):Yk X fn R .normal s:=⟨k.out⟩
def Sl.cases{l:Type}{e:U8 l}{V:Nat}{h:H}{a:O Addr}{c:Nat}{xs:U l}(s:Sl e V h a c xs):(a=none/\c=0/\xs=[])\/∃q,a=some q:=by
 rcases s.nl with⟨h1,h2⟩|⟨h1,_⟩|⟨i,o,h1⟩
 .refine .inl ⟨h1,h2,?_⟩;rcases s.mem with z|⟨i,o,cs,own,z,q1,_⟩
  .exact z
  rw[h1]at q1;cases q1
 .exact .inr ⟨_,h1⟩
 exact .inr ⟨_,h1⟩
def Zzq{t e:J}{x y:V0}(hu:P.underlying t=some (.slice e)):X9 P .eql t x y (V8) (V8)=some (.val (.bool true),.none):=by
 have h:(plain (V8)&&plain (V8))=true:=rfl;unfold X9;rw[h,Cq1];unfold Kr;have h1:ZF P (eqGuard .eql t x y (V8) (V8))=some (.ok ()):=rfl;rw[prb h1]
 have:ZF P (binOp .eql t (V8) (V8))=some (.ok (.bool true)):=by
  show ZF P (do pure (Value.bool (<-Op.equal t (V8) (V8))):Sem N)=_
  have h2:ZF P (Op.equal t (V8) (V8))=some (.ok true):=by
   unfold Op.equal;show ZF P (Op.equalIn (9999+1) t _ _)=_;unfold Op.equalIn;rw[prb (YW hu)];rfl
  rw[prb h2];rfl
 rw[this];rfl
def Zzr{t e:J}{x y:V0}{q:Addr}{n c:Nat}(hu:P.underlying t=some (.slice e)):X9 P .eql t x y (.slice (some q) n c) (V8)=some (.val (.bool false),.none):=by
 have h:(plain (.slice (some q) n c)&&plain (V8))=false:=rfl;unfold X9;rw[h,Cq0];have:ZaA P t (.slice (some q) n c) (V8)=some false:=by unfold ZaA;rw[hu];rfl
 rw[this]
def ZPs{p:Type}(l:Nat)(h:1000*l<=2 ^ 47):app l ([]:U p) []=some []:=Zmi (by simpa using h)
def Zmq{l:BinOp}{t:J}{x y:V0}{a b r:Z}(hu:P.underlying t=some .bool)(h:l=.eql/\r=(a==b)\/l=.neq/\r=(a !=b)):X9 P l t x y (.bool a) (.bool b)=some (.val (.bool r),.none):=by
 have p:(plain (.bool a)&&plain (.bool b))=true:=rfl;have h2:ZF P (Op.equal t (.bool a) (.bool b))=some (.ok (a==b)):=ZIy (d:=9999) hu;unfold X9;rw[p,Cq1];unfold Kr;rcases h with⟨rfl,rfl⟩|⟨rfl,rfl⟩
 .have h1:ZF P (eqGuard .eql t x y (.bool a) (.bool b))=some (.ok ()):=rfl;rw[prb h1]
  have:ZF P (binOp .eql t (.bool a) (.bool b))=some (.ok (.bool (a==b))):=by
   show ZF P (do pure (Value.bool (<-Op.equal t (.bool a) (.bool b))):Sem N)=_;rw[prb h2];rfl
  rw[this];rfl
 have h1:ZF P (eqGuard .neq t x y (.bool a) (.bool b))=some (.ok ()):=rfl;rw[prb h1]
 have:ZF P (binOp .neq t (.bool a) (.bool b))=some (.ok (.bool (a !=b))):=by
  show ZF P (do pure (Value.bool (!(<-Op.equal t (.bool a) (.bool b)))):Sem N)=_;rw[prb h2];rfl
 rw[this];rfl
def Ziz{t:J}{x y:V0}{a b:Z}(hu:P.underlying t=some .bool):X9 P .eql t x y (.bool a) (.bool b)=some (.val (.bool (a==b)),.none):=Zmq hu (.inl ⟨rfl,rfl⟩)
def Zzs{t:J}{x y:V0}{a b:Z}(hu:P.underlying t=some .bool):X9 P .neq t x y (.bool a) (.bool b)=some (.val (.bool (a !=b)),.none):=Zmq hu (.inr ⟨rfl,rfl⟩)
end
section
abbrev SfT:=U (Nat×Nat×Nat×(Xv->Prop))×U (Nat×U Nat)
variable{X:Ctx}{n V:Nat}{rd:O Nat}{ops:V5 Oper}{l:U Oper}{fr:Fr}{ds:U V7}{h h1:H}{ty:J}{p:String}{af:V5 Edge}{g:O (Nat×Z)}{m:Nat}{sf:SfT}
def ZKJ(A:Xv):Prop:=∀(ρ h:Ren)(w:V4)(b d:Nat)(l:Nat×Nat),Q0 ρ w b d l A->Q0 h w b d l A
def Prm(P:V2)(V:Nat)(rd:O Nat)(ops:V5 Oper)(o:Oper)(fr:Fr)(h:H)(v:N)(x:Nat)(C:Xv->Prop):Prop:=
 x<h.size/\ZKJ (h.at x)/\Ua P V rd ops o (fun _=>False) fr h v h/\∀A,C A->ZKJ A/\Ua P V rd ops o (fun _=>False) fr (h.put x A) v (h.put x A)
variable{Q:Fr->H->Prop}
def ZVW(V:Nat)(t:O Nat):MOf false V t=fun x=>t=some x:=by funext x;unfold MOf;simp
def SV(X:Ctx)(V:Nat)(o:Oper)(fr:Fr)(h:H)(v:N)(h1:H)(l:Z):Prop:=∃E,XM X h (YI fr) o=some (.val v,E)/\E.apply V h=some h1/\(l=false->E.tgt=none)
def SU(X:Ctx)(V:Nat)(o:Oper)(fr:Fr)(h:H)(h1:H)(l:Z):Prop:=∃E,XM X h (YI fr) o=some (.skip,E)/\E.apply V h=some h1/\(l=false->E.tgt=none)
def ZEd{l:U Nat}{i j:Nat}(h:i≠j):comp l i j=comp l j i:=by
 unfold comp;rcases Gq i j with z|z
 .have h1:Nat.blt i j=true:=by rw[Gd];exact z
  have h2:Nat.blt j i=false:=by rw[GS];intro q;rw[Gd]at q;omega
  rw[h1,h2];rfl
 have h1:Nat.blt j i=true:=by rw[Gd];omega
 have h2:Nat.blt i j=false:=by rw[GS];intro q;rw[Gd]at q;omega
 rw[h1,h2];rfl
def ZJc{x y:V0}{t:J}{b o z sz:Nat}{cs cs' vs:U N}{v:N}{d:O Tmp}(B:YO X.P t=some sz)(A:YI fr x=some (.pointer (some ⟨b,o,none⟩)))(r:YI fr y=some v)
 (q:h.at b=.row cs true z) (E:V<=b) (l:v.cells.toList=vs) (hn:vs.length=sz) (C:o+sz<=cs.length) (D:vs.all Value.oneCell'=true) (hv:splice cs o vs=cs'):
 XM X h (YI fr) ⟨d,.store t x y,ty,p,af,g⟩=some (.skip,.upd b (.row cs' true z))/\(Eff.upd b (.row cs' true z)).apply V h=some (h.put b (.row cs' true z)):=by
 subst l;refine⟨?_,?_⟩
 .rw[Zzg,A,r];dsimp only
  have:Ziu X.P h t (.pointer (some ⟨b,o,none⟩)) v=some (.upd b (.row cs' true z)):=by
   unfold Ziu;rw[B];dsimp only;rw[q];dsimp only;have h1:Nat.beq v.cells.toList.length sz=true:=by rw[hn];exact Nat.beq_refl sz
   have h2:Nat.ble (o+sz) cs.length=true:=Nm0 C;rw[h1,h2,D,hv];rfl
  rw[this];rfl
 show(bif Nat.ble V b&&(h.at b).own then some (h.put b (.row cs' true z)) else none)=_;rw[q];have:Nat.ble V b=true:=Nm0 E;rw[this];rfl
def YH{d:O Tmp}{t:J}{q:V5 (Nat×V0)}{x cs':U N}{r:U (Nat×Nat)}{l:U (Nat×N)}{ev:V0->O N}(B:Jz X.P t x r)(y:evp ev q.toList=some l)(A:Zlk (fun i=>r[i]?) x.length l=true)(hv:Zr6 (fun i=>(r.getD i (0,0)).1) x l=cs'):
 XM X h ev ⟨d,.build t q,ty,p,af,g⟩=some (.val (.agg cs'.toArray),.none):=by
 subst hv;obtain⟨z,E,h1,rfl,D,C⟩:=B;show(match evp ev q.toList with|some q=>vN (Zmo X.P t q) | none=>none)=_;rw[y];dsimp only;unfold Zmo;rw[h1,D];dsimp only;rw[C];dsimp only;rw[Zs2 (off:=fun i=>(r.getD i (0,0)).1) (fun i p e=>by rw[GR,e];rfl) _ _ A];rfl
end
section
variable{X:Ctx}{P:V2}{κ ν:Type}[DecidableEq κ]
structure Zd2(P:Program)(kt:TypeId)(kv:κ->Value):Prop where
 pl:∀x,plain (kv x)=true
 ok:∀e x,KW P e kt (kv x)=true
 same:∀x,Instr.sameBits 10000 (kv x) (kv x)=true
 eq:∀x y,ZF P (Op.equal kt (kv x) (kv y))=some (.ok (decide (x=y)))
 kind:∃u,P.underlying kt=some u/\((∀x y,Instr.sameNow u (kv x) (kv y)=none)\/∀x y,Instr.sameNow u (kv x) (kv y)=some (decide (x=y)))
def Xz(kv:κ->N)(vv:ν->N)(l:U (κ×ν))(bs:U Nat):U V6:=List.zipWith (fun p b=>⟨kv p.1,vv p.2,b⟩) l bs
variable{kt:J}{kv:κ->N}{vv:ν->N}
theorem Zr5(K:Zd2 P kt kv)(k:κ):∀(l:U (κ×ν))(bs:U Nat)(i:Nat),bs.length=l.length->ZF P (Instr.findAsking kt (kv k) (Xz kv vv l bs) i)=some (.ok ((Yq l k).map fun q=>(i+q.1,vv q.2))):=by
 intro l
 induction l with|nil=>intro bs i _;rfl|cons p l ih=>
   intro bs i h;cases bs with|nil=>cases h|cons b bs=>
     show ZF P (do if <-Op.equal kt (kv k) (kv p.1) then pure (some (i,vv p.2)) else Instr.findAsking kt (kv k) (Xz kv vv l bs) (i+1))=_;rw[prb (K.eq k p.1)];unfold Yq;by_cases e:p.1=k;.rw[if_pos e,decide_eq_true e.symm];rfl
     rw[if_neg e,decide_eq_false (fun z=>e z.symm)];show ZF P (Instr.findAsking kt (kv k) (Xz kv vv l bs) (i+1))=_;rw[ih bs (i+1) (by simpa using h)];cases Yq l k with|none=>rfl|some q=>simp[GO,Nat.add_comm 1]
theorem ZC8{u:TypeDesc}(r:∀x y,Instr.sameNow u (kv x) (kv y)=some (decide (x=y)))(k:κ):∀(l:U (κ×ν))(bs:U Nat)(i:Nat),bs.length=l.length->Instr.findNow u (kv k) (Xz kv vv l bs) i=some ((Yq l k).map fun q=>(i+q.1,vv q.2)):=by
 intro l
 induction l with|nil=>intro bs i _;rfl|cons p l ih=>
   intro bs i h;cases bs with|nil=>cases h|cons b bs=>
     show(match Instr.sameNow u (kv k) (kv p.1) with|some true=>some (some (i,vv p.2)) | some false=>Instr.findNow u (kv k) (Xz kv vv l bs) (i+1) | none=>none)=_;rw[r];unfold Yq;by_cases e:p.1=k;.rw[if_pos e,decide_eq_true e.symm];rfl
     rw[if_neg e,decide_eq_false (fun z=>e z.symm)];show Instr.findNow u (kv k) (Xz kv vv l bs) (i+1)=_;rw[ih bs (i+1) (by simpa using h)];cases Yq l k with|none=>rfl|some q=>simp[GO,Nat.add_comm 1]
theorem ZbG(K:Zd2 P kt kv)(k:κ)(l:U (κ×ν))(bs:U Nat)(r:bs.length=l.length):Zi5 P kt (kv k) (Xz kv vv l bs)=some ((Yq l k).map fun q=>(q.1,vv q.2)):=by
 have⟨u,hu,h⟩:=K.kind;unfold Zi5 Instr.findKey;rw[prb (YW hu)];rcases h with h|h
 .cases l with
  | nil=>cases bs with|nil=>rfl|cons=>cases r
  | cons p l=>
    cases bs with|nil=>cases r|cons b bs=>
      have:Instr.findNow u (kv k) (Xz kv vv (p::l) (b::bs)) 0=none:=by
       show(match Instr.sameNow u (kv k) (kv p.1) with|some true=>some (some (0,vv p.2)) | some false=>Instr.findNow u (kv k) (Xz kv vv l bs) (0+1) | none=>none)=_;rw[h]
      rw[this];dsimp only;rw[Zr5 K k (p::l) (b::bs) 0 r];simp
 rw[ZC8 h k l bs 0 r];simp only[Gc];rfl
omit [DecidableEq κ] in
theorem Zrf{l l2:U (κ×ν)}{bs b2:U Nat}(hb:bs.length=l.length):Xz kv vv (l++l2) (bs++b2)=Xz kv vv l bs++Xz kv vv l2 b2:=by
 unfold Xz;rw[List.zipWith_append hb.symm]
omit [DecidableEq κ] in
theorem ZA0{l:U (κ×ν)}{bs:U Nat}{j:Nat}{p:κ×ν}{b:Nat}(h1:l[j]? =some p)(h2:bs[j]? =some b):(Xz kv vv l bs)[j]? =some ⟨kv p.1,vv p.2,b⟩:=by
 unfold Xz;rw[List.getElem?_zipWith,h1,h2]
omit [DecidableEq κ] in
theorem Zre{l:U (κ×ν)}{bs:U Nat}(f:V6->V6)(g:κ×ν->κ×ν)(hfg:∀p b,f ⟨kv p.1,vv p.2,b⟩=⟨kv (g p).1,vv (g p).2,b⟩)(j:Nat):(Xz kv vv l bs).modify j f=Xz kv vv (l.modify j g) bs:=by
 induction l generalizing bs j with
 | nil=>simp[Xz]
 | cons p l ih=>
   cases bs with
   | nil=>simp[Xz]
   | cons b bs=>
     cases j with
     | zero=>simp only[Xz,List.zipWith_cons_cons,List.modify_zero_cons,hfg]
     | succ j=>simp only[Xz,List.zipWith_cons_cons,List.modify_succ_cons];congr 1;exact ih j
omit [DecidableEq κ] in
theorem Zt3{l:U (κ×ν)}{bs:U Nat}(hb:bs.length=l.length)(j:Nat):(Xz kv vv l bs).eraseIdx j=Xz kv vv (l.eraseIdx j) (bs.eraseIdx j):=by
 induction l generalizing bs j with
 | nil=>simp[Xz]
 | cons p l ih=>
   cases bs with
   | nil=>cases hb
   | cons b bs=>
     cases j with
     | zero=>simp only[Xz,List.zipWith_cons_cons,List.eraseIdx_zero,List.tail_cons]
     | succ j=>simp only[Xz,List.zipWith_cons_cons,List.eraseIdx_cons_succ];congr 1;exact ih (by simpa using hb) j
structure MapAt(kv:κ->Value)(vv:ν->Value)(h:H)(m:Option Nat)(l:List (κ×ν)):Prop where
 mem:(m=none/\l=[])\/∃i bs XE,m=some i/\h.at i=.map (Xz kv vv l bs) XE/\bs.length=l.length/\bs.Nodup/\∀b∈bs,b<XE
structure ZiD(kv:κ->Value)(vv:ν->Value)(V:Nat)(h:H)(m:Option Nat)(l:List (κ×ν)):Prop where
 at_:MapAt kv vv h m l
 low:∀i,m=some i->i<V
structure ZcF(kv:κ->Value)(vv:ν->Value)(lo:Nat)(h:H)(m:Option Nat)(l:List (κ×ν)):Prop where
 at_:MapAt kv vv h m l
 low:∀i,m=some i->lo<=i
variable{V lo:Nat}{h h':H}{m:O Nat}{l:U (κ×ν)}
theorem map_lt{i:Nat}{es:U V6}{c:Nat}(e:h.at i=.map es c):i<h.size:=Y8 e rfl
omit [DecidableEq κ] in
theorem MapAt.lt(s:MapAt kv vv h m l){i:Nat}(e:m=some i):i<h.size:=by
 rcases s.mem with⟨q,_⟩|⟨j,bs,XE,q,h1,_⟩
 ·rw[q]at e;cases e
 ·rw[q]at e;cases e;exact map_lt h1
omit [DecidableEq κ] in
theorem MapAt.keep(s:MapAt kv vv h m l)(k:∀i,m=some i->h'.at i=h.at i):MapAt kv vv h' m l:=
 ⟨s.mem.imp id fun⟨i,bs,XE,q,h1,h2⟩=>⟨i,bs,XE,q,by rw[k i q];exact h1,h2⟩⟩
omit [DecidableEq κ] in
theorem ZiD.fz(s:ZiD kv vv V h m l)(f:Fz V h h'):ZiD kv vv V h' m l:=⟨s.at_.keep fun i e=>f.low i (s.low i e) (s.at_.lt e),s.low⟩
omit [DecidableEq κ] in
theorem MapAt.all(s:MapAt kv vv h m l):ZiD kv vv h.size h m l:=⟨s,fun _ e=>s.lt e⟩
omit [DecidableEq κ] in
theorem ZcF.lower{lo':Nat}(hl:lo'<=lo)(s:ZcF kv vv lo h m l):ZcF kv vv lo' h m l:=⟨s.at_,fun i e=>KK hl (s.low i e)⟩
omit [DecidableEq κ] in
theorem ZcF.nil:ZcF kv vv lo h none ([]:U (κ×ν)):=⟨⟨.inl ⟨rfl,rfl⟩⟩,fun i e=>by cases e⟩
section
variable{ops:V5 Oper}{ol:U Oper}{fr:Fr}{ds:U V7}{ty:J}{p:String}{af:V5 Edge}{g:O (Nat×Z)}{d:O Tmp}{vt:J}{ev:V0->O N}
omit [DecidableEq κ] in
theorem ZxC(s:MapAt kv vv h m l):∃bs c,ZcD h (.map m)=some (Xz kv vv l bs,c)/\bs.length=l.length:=by
 rcases s.mem with⟨rfl,rfl⟩|⟨i,bs,XE,rfl,h1,h2,_⟩
 ·exact⟨[],0,rfl,rfl⟩
 ·refine⟨bs,XE,?_,h2⟩;unfold ZcD;dsimp only;rw[h1]
theorem ZPn{t:J}{x y:V0}{k:κ}{z:ν}(K:Zd2 X.P kt kv)(hu:X.P.underlying t=some (.map kt vt))(r:Y5 X.P vt=some (vv z))(B:ev x=some (.map m))(A:ev y=some (kv k))(s:MapAt kv vv h m l):
 XM X h ev ⟨d,.lookup t x y false,ty,p,af,g⟩=some (.val (vv ((ZC l k).getD z)),.none):=by
 have⟨bs,c,h1,h2⟩:=ZxC s;show(match ev x,ev y with|some m,some k=>vN (UA X.P h t m k false) | _,_=>none)=_;rw[B,A];dsimp only
 have:UA X.P h t (.map m) (kv k) false=some (vv ((ZC l k).getD z)):=by
  refine Zmk ?_;unfold KF;rw[hu,h1];dsimp only;rw[K.ok,Cq1,ZbG K k l bs h2];unfold ZC;cases Yq l k with|some q=>rfl|none=>
    show(match Y5 X.P vt with|some z=>some (bif false then Value.tuple #[z,.bool false] else z) | none=>none)=_;rw[r];rfl
 rw[this];rfl
theorem Zp4{t:J}{x y:V0}{k:κ}{z:ν}(K:Zd2 X.P kt kv)(hu:X.P.underlying t=some (.map kt vt))(r:Y5 X.P vt=some (vv z))(B:ev x=some (.map m))(A:ev y=some (kv k))(s:MapAt kv vv h m l):
 XM X h ev ⟨d,.lookup t x y true,ty,p,af,g⟩=some (.val (.tuple #[vv ((ZC l k).getD z),.bool (ZC l k).isSome]),.none):=by
 have⟨bs,c,h1,h2⟩:=ZxC s;show(match ev x,ev y with|some m,some k=>vN (UA X.P h t m k true) | _,_=>none)=_;rw[B,A];dsimp only
 have:UA X.P h t (.map m) (kv k) true=some (.tuple #[vv ((ZC l k).getD z),.bool (ZC l k).isSome]):=by
  refine Zmk ?_;unfold KF;rw[hu,h1];dsimp only;rw[K.ok,Cq1,ZbG K k l bs h2];unfold ZC;cases Yq l k with|some q=>rfl|none=>
    show(match Y5 X.P vt with|some z=>some (bif true then Value.tuple #[z,.bool false] else z) | none=>none)=_;rw[r];rfl
 rw[this];rfl
theorem Kl{t:J}{x y:V0}{k:κ}{z v:ν}{w:N}(K:Zd2 X.P kt kv)(hu:X.P.underlying t=some (.map kt vt))(q:Y5 X.P vt=some (vv z))(A:ev x=some (.map m))(r:ev y=some (kv k))(s:MapAt kv vv h m l)(hv:ZeN l k z=some v)(hw:vv v=w):
 XM X h ev ⟨d,.lookup t x y false,ty,p,af,g⟩=some (.val w,.none):=by
 rw[ZPn K hu q A r s,Oi0 hv,hw]
theorem ZEw{t:J}{x y:V0}{k:κ}{z:ν}{v:ν×Z}{w:N}(K:Zd2 X.P kt kv)(hu:X.P.underlying t=some (.map kt vt))(q:Y5 X.P vt=some (vv z))(A:ev x=some (.map m))(r:ev y=some (kv k))(s:MapAt kv vv h m l)(hv:ZAB l k z=some v)(hw:vv v.1=w):
 XM X h ev ⟨d,.lookup t x y true,ty,p,af,g⟩=some (.val (.tuple #[w,.bool v.2]),.none):=by
 have:=Oi0 hv;subst this;rw[Zp4 K hu q A r s,hw]
theorem ZjW{i:Nat}{es es':U V6}{c c':Nat}(hw:V<=i)(h1:h.at i=.map es c):Eff.apply V h (.upd i (.map es' c'))=some (h.put i (.map es' c')):=by show(bif Nat.ble V i&&(h.at i).own then some (h.put i _) else none)=_;rw[h1,Nm0 hw];rfl
theorem Zou{i:Nat}{es:U V6}{c:Nat}{A:Xv}(l:lo<=i)(h1:h.at i=.map es c):Up lo (fun j=>some i=some j) h (h.put i A):=
 ⟨K1 _,fun j _ hn=>XG (fun q=>hn (by rw[q])) A,fun j e=>by cases e;exact⟨l,by rw[h1];rfl⟩⟩
theorem ZLg{fr:Fr}{t:TypeId}{x y z:Operand}{k:κ}{v:ν}(K:Zd2 X.P kt kv)(hu:X.P.underlying t=some (.map kt vt))(hw:V<=lo)(hx:YI fr x=some (.map m))(hm:m.isSome=true)(W:YI fr y=some (kv k))(T:YI fr z=some (vv v))(s:ZcF kv vv lo h m l):
 ∃Q,SU X V ⟨d,.mapUpdate t x y z,ty,p,af,g⟩ fr h Q true/\Up lo (fun j=>m=some j) h Q/\ZcF kv vv lo Q m (Yu l k v):=by
 obtain⟨i,rfl⟩:=Option.isSome_iff_exists.1 hm;have r:=s.low i rfl;rcases s.at_.mem with⟨q,_⟩|⟨j,bs,B,q,h1,h2,S,L⟩
 .cases q
 cases q
 have key:∀E,XC X.P h t (.map (some i)) (kv k) (vv v)=some E->XM X h (YI fr) ⟨d,.mapUpdate t x y z,ty,p,af,g⟩=some (.skip,E):=fun E hE=>by
  show(match YI fr x,YI fr y,YI fr z with|some m,some k,some x=>sE (XC X.P h t m k x) | _,_,_=>none)=_;rw[hx,W,T];dsimp only;rw[hE];rfl
 have D:ZcD h (.map (some i))=some (Xz kv vv l bs,B):=by unfold ZcD;dsimp only;rw[h1]
 cases e:Yq l k with
 | some q=>
   have G:=ZaC e;have F:q.1<bs.length:=by rw[h2];exact(Li0 G).1
   have I:bs[q.1]? =some bs[q.1]:=List.getElem?_eq_getElem F
   have C:(Xz kv vv l bs).modify q.1 (fun e=>{e with key:=kv k,val:=vv v})=Xz kv vv (l.modify q.1 fun p=>(p.1,v)) bs:=by
    have h5:(Xz kv vv l bs).modify q.1 (fun e=>{e with key:=kv k,val:=vv v})=Xz kv vv (l.modify q.1 fun _=>(k,v)) bs:=Zre _ _ (fun p b=>rfl) _;rw[h5];congr 1;apply List.ext_getElem?;intro n;rw[List.getElem?_modify,List.getElem?_modify];by_cases hn:q.1=n;.subst hn;rw[G];simp
    simp[hn]
   refine⟨_,⟨.upd i (.map (Xz kv vv (l.modify q.1 fun p=>(p.1,v)) bs) B),key _ ?_,ZjW (Nat.le_trans hw r) h1,fun z=>by cases z⟩,Zou r h1,⟨⟨.inr ⟨i,bs,B,rfl,?_,?_,S,L⟩⟩,s.low⟩⟩;.refine Zfe ?_;unfold XZ;rw[hu,D];dsimp only;rw[K.ok,Cq1,ZbG K k l bs h2,e];dsimp only[Option.map_some];rw[ZA0 G I];dsimp only;rw[K.same,Cq1,C]
   .rw[Yp (map_lt h1)];unfold Yu;rw[e]
   unfold Yu;rw[e];simpa using h2
 | none=>
   refine⟨_,⟨.upd i (.map (Xz kv vv (l++[(k,v)]) (bs++[B])) (B+1)),key _ ?_,ZjW (Nat.le_trans hw r) h1,fun z=>by cases z⟩,Zou r h1,⟨⟨.inr ⟨i,bs++[B],B+1,rfl,?_,?_,?_,?_⟩⟩,s.low⟩⟩;.refine Zfe ?_;unfold XZ;rw[hu,D];dsimp only;rw[K.ok,Cq1,ZbG K k l bs h2,e,Zrf h2];rfl
   .rw[Yp (map_lt h1)];unfold Yu;rw[e]
   .unfold Yu;rw[e];simp[h2]
   .rw[List.nodup_append];exact⟨S,by simp,fun a ha b A=>by simp at A;subst A;exact Nat.ne_of_lt (L a ha)⟩
   intro b A;rw[List.mem_append]at A;rcases A with A|A
   .have:=L b A;omega
   simp at A;omega
theorem ZO3{fr:Fr}{ts:Array TypeId}{t:TypeId}{rest:List TypeId}{x y:Operand}{k:κ}(K:Zd2 X.P kt kv)(D:ts.toList=t::rest)(hu:X.P.underlying t=some (.map kt vt))(hw:V<=lo)(S:YI fr x=some (.map m))(T:m.isSome=true)(Q:YI fr y=some (kv k))(s:ZcF kv vv lo h m l):
 ∃G,SV X V ⟨d,.call {callee:=.builtin .delete,args:=#[x,y],argTypes:=ts},ty,p,af,g⟩ fr h (.tuple #[]) G true/\Up lo (fun j=>m=some j) h G/\ZcF kv vv lo G m (Zfs l k):=by
 obtain⟨i,rfl⟩:=Option.isSome_iff_exists.1 T;have r:=s.low i rfl;rcases s.at_.mem with⟨q,_⟩|⟨j,bs,C,q,h1,h2,L,I⟩
 .cases q
 cases q
 have A:∀E,ZeB X.P h t (.map (some i)) (kv k)=some E->XM X h (YI fr) ⟨d,.call {callee:=.builtin .delete,args:=#[x,y],argTypes:=ts},ty,p,af,g⟩=some (.val (.tuple #[]),E):=fun E hE=>by
  rw[U4];have:evs (YI fr) (#[x,y]:Array Operand).toList=some [.map (some i),kv k]:=Zb S (Zb Q Zd);rw[this];show Uv X.P h .delete ts ty [.map (some i),kv k]=_;unfold Uv;dsimp only;rw[D];dsimp only;rw[hE]
 have B:ZcD h (.map (some i))=some (Xz kv vv l bs,C):=by unfold ZcD;dsimp only;rw[h1]
 cases e:Yq l k with
 | some q=>
   have F:q.1<l.length:=(Li0 (ZaC e)).1;refine⟨_,⟨.upd i (.map (Xz kv vv (l.eraseIdx q.1) (bs.eraseIdx q.1)) C),A _ ?_,ZjW (Nat.le_trans hw r) h1,fun z=>by cases z⟩,Zou r h1,⟨⟨.inr ⟨i,bs.eraseIdx q.1,C,rfl,?_,?_,?_,?_⟩⟩,s.low⟩⟩;.unfold ZeB;rw[hu,B];dsimp only;rw[K.ok,Cq1,ZbG K k l bs h2,e];dsimp only[Option.map_some];rw[Zt3 h2]
   .rw[Yp (map_lt h1)];unfold Zfs;rw[e]
   .unfold Zfs;rw[e];simp[List.length_eraseIdx,h2,F]
   .exact L.sublist (List.eraseIdx_sublist ..)
   exact fun b W=>I b ((List.eraseIdx_sublist ..).subset W)
 | none=>
   refine⟨_,⟨.upd i (.map (Xz kv vv l bs) C),A _ ?_,ZjW (Nat.le_trans hw r) h1,fun z=>by cases z⟩,Zou r h1,⟨⟨.inr ⟨i,bs,C,rfl,?_,?_,L,I⟩⟩,s.low⟩⟩;.unfold ZeB;rw[hu,B];dsimp only;rw[K.ok,Cq1,ZbG K k l bs h2,e];rfl
   .rw[Yp (map_lt h1)];unfold Zfs;rw[e]
   unfold Zfs;rw[e];exact h2
end
end
section
variable{P:V2}
def ZO6{e:Z}{t:J}{v:N}{d:Nat}(hu:P.underlying t=some .string):ZF P (Instr.checkKey e (d+1) t v)=some (.ok ()):=by unfold Instr.checkKey;rw[prb (YW hu)];rfl
end
section
variable{X:Ctx}{n V lo:Nat}{Q:XX->Fs->Prop}{fr:Fr}{ds:U V7}{h:H}
structure BdK(n lo l:Nat)(fr:Fr)(ps:Array Tmp)(YF bd:Code)(df:Nat)(R:H->Prop)(e:XX)(s:Fs):Prop where
 out:e=.normal/\s.h.at l=.loop .busy none fr n ps YF bd df/\∀h',(lo<=l->Up lo (fun i=>i=l) s.h h')->h'.at l=.loop .ready none fr n ps YF bd df->R h'
structure AsK(X:Ctx)(n V lo l:Nat)(fr:Fr)(ps:Array Tmp)(YF bd:Code)(df:Nat)(R:H->Prop)(e:XX)(s:Fs):Prop where
 out:e=.normal/\s.h.at l=.loop .ready none fr n ps YF bd df/\∀h1,(lo<=l->Up lo (fun i=>i=l) s.h h1)->h1.at l=.loop .busy none fr n ps YF bd df->WC X n V (some l) bd ⟨s.fr,s.ds,h1,s.wr⟩ (BdK n lo l fr ps YF bd df R)
def BdK.mk'{l:Nat}{fr x:Fr}{p:V5 Tmp}{YF t:Code}{r:Nat}{R:H->Prop}(h1:h.at l=.loop .busy none fr n p YF t r)(k:∀q,(lo<=l->Up lo (fun i=>i=l) h q)->q.at l=.loop .ready none fr n p YF t r->R q):BdK n lo l fr p YF t r R .normal ⟨x,ds,h,none⟩:=⟨⟨rfl,h1,k⟩⟩
def AsK.mk'{l:Nat}{fr t:Fr}{q:V5 Tmp}{YF p:Code}{r:Nat}{R:H->Prop}(h1:h.at l=.loop .ready none fr n q YF p r)(k:∀h1,(lo<=l->Up lo (fun i=>i=l) h h1)->h1.at l=.loop .busy none fr n q YF p r->WC X n V (some l) p ⟨t,ds,h1,none⟩ (BdK n lo l fr q YF p r R)):AsK X n V lo l fr q YF p r R .normal ⟨t,ds,h,none⟩:=⟨⟨rfl,h1,k⟩⟩
def Zs7(X:Ctx)(l:Nat)(args:V5 N)(V:Nat)(h:H)(R:Z->H->Prop):Prop:=∃b p,R b p/\Y7 X (.round l args V h) (.fin (.ret (.bool b)) p)
def Zs7.mk'{l:Nat}{args:U N}{fr KJ:Fr}{p:V5 Tmp}{YF q:Code}{t:Nat}{R:H->Prop}(lo:Nat)(A:h.at l=.loop .ready none fr n p YF q t)(hw:V<=l)(y:Nat.beq args.length p.toList.length=true)(D:X7 (p.toList.zip args) n fr=some KJ)
 (k:WC X n V (some l) YF ⟨KJ,[],h,none⟩ (AsK X n V lo l fr p YF q t R)):Zs7 X l args.toArray V h (fun b S=>b=true/\R S):=by
 obtain⟨e1,s1,⟨rfl,h1,k1⟩,L⟩:=k;have I:(s1.h.at l).own=true:=by rw[h1];rfl
 have x:=Y8 h1 rfl;obtain⟨W,s2,⟨rfl,h2,k2⟩,K⟩:=k1 (s1.h.put l (.loop .busy none fr n p YF q t)) (fun y=>Up.put y I) (Yp x _);have G:(s2.h.at l).own=true:=by rw[h2];rfl
 refine⟨true,s2.h.put l (.loop .ready none fr n p YF q t),⟨rfl,k2 _ (fun y=>Up.put y G) (Yp (Y8 h2 rfl) _)⟩,?_⟩
 classical
 let ih:WI->O QJ:=fun j=>if j=.code YF n V (some l) ⟨KJ,[],h,none⟩ then some (.code .normal s1) else Jb (.code q n V (some l) {s1 with h:=s1.h.put l (.loop .busy none fr n p YF q t)}) (.code .normal s2) j
 have T:∀j r,ih j=some r->Y7 X j r:=by
  intro j r e;dsimp only[ih]at e;split at e
  ·rename_i F;cases e;rw[F];exact L
  exact Xx (X:=X) K j r e
 refine Zbe (C:=cfg X fun _=>false) (ih:=ih) T ?_;unfold Zg6;rw[A];have E:Nat.beq args.toArray.toList.length p.toList.length=true:=y;dsimp only;rw[Nm0 hw,E];simp only[Bool.and_self,Cq1];have B:X7 (p.toList.zip args.toArray.toList) n fr=some KJ:=D;rw[B];dsimp only;have Q:ih (.code YF n V (some l) {fr:=KJ,ds:=[],h:=h})=some (.code .normal s1):=by dsimp only[ih];rw[if_pos rfl]
 rw[Q];show Kz ih l q n V .normal s1=_;unfold Kz;dsimp only;rw[h1];dsimp only
 have P:ih (.code q n V (some l) {s1 with h:=s1.h.put l (.loop .busy none fr n p YF q t)})=some (.code .normal s2):=by
  dsimp only[ih];split
  ·rename_i F;exfalso;injection F with _ _ _ _ D
   have:({s1 with h:=s1.h.put l (.loop .busy none fr n p YF q t)}:Fs).h.at l=h.at l:=by rw[D]
   dsimp only at this;rw[Yp x,A]at this;cases this
  exact Xy _ _
 rw[P];show Je l .normal s2=_;unfold Je;rw[h2]
section
variable{ops:V5 Oper}{ol:U Oper}{d:Nat}{ty:J}{p:String}{af:V5 Edge}{g:O (Nat×Z)}{rd:O Nat}
def WO.round{l:Nat}{args:V5 N}{E:Eff}{v:N}{h1 h2:H}{q:Op}(t:Yg ops ⟨some d,q,ty,p,af,g⟩ fr)(x:Nat.blt d n=true)(A:XM X h (YI fr) ⟨some d,q,ty,p,af,g⟩=some (.round l args,E))(B:E.apply V h=some h1)
 (y:Y7 X (.round l args V h1) (.fin (.ret v) h2)) (k:WO X n V rd ops ol ⟨Tr.set fr d v,ds,h2,none⟩ Q):WO X n V rd ops (⟨some d,q,ty,p,af,g⟩::ol) ⟨fr,ds,h,none⟩ Q:=by
 have r:Zl1 n (some d)=true:=x;refine WO.cons (Xx y) (s1:=⟨Tr.set fr d v,ds,h2,none⟩) ?_ k;unfold KE;rw[t.1,t.2];dsimp only[J0,Cq0,Cq1];rw[A];dsimp only[J0,Cq0,Cq1];rw[B];unfold Zcs;dsimp only[Wd,Cq0];rw[Xy];dsimp only;rw[Zhh r];rfl
def WO.yld{l:Nat}{x:V0}{xs:V5 V0}{ts:V5 J}{vs:U N}{R:Z->H->Prop}{A:LoopState}{B:O Code}{t:Fr}{C:Nat}{y:V5 Tmp}{YF S:Code}{P:Nat}
 (I:Yg ops ⟨some d,.call {callee:=.value x,args:=xs,argTypes:=ts},ty,p,af,g⟩ fr) (L:Nat.blt d n=true) (K:YI fr x=some (.func (.yield l) #[] #[])) (D:evs (YI fr) xs.toList=some vs)
 (r:h.at l=.loop A B t C y YF S P) (G:vs.length=y.toList.length) (F:Zs7 X l vs.toArray V h R) (k:∀b q,R b q->WO X n V rd ops ol ⟨Tr.set fr d (.bool b),ds,q,none⟩ Q):
 WO X n V rd ops (⟨some d,.call {callee:=.value x,args:=xs,argTypes:=ts},ty,p,af,g⟩::ol) ⟨fr,ds,h,none⟩ Q:=by
 have⟨b,q,hR,hj⟩:=F;refine WO.round (E:=.none) I L ?_ rfl hj (k b q hR);rw[ZeA,D];dsimp only;rw[K];dsimp only;unfold U5;dsimp only;rw[r];dsimp only;rw[G,Nat.beq_refl];rfl
def WO.QX{o:Oper}{c:Z}(_:Ze ops o fr c)(h1:c=true->WO X n V rd ops (o::ol) ⟨fr,ds,h,none⟩ Q)(h2:c=false->WO X n V rd ops (o::ol) ⟨fr,ds,h,none⟩ Q):WO X n V rd ops (o::ol) ⟨fr,ds,h,none⟩ Q:=by
 cases c;.exact h2 rfl
 exact h1 rfl
def Ze.on{o:Oper}{c:Z}(h:Ze ops o fr c)(l:c=true):Yg ops o fr:=⟨h.1,h.2.trans l⟩
def Ze.off{o:Oper}{c:Z}(h:Ze ops o fr c)(l:c=false):Zhs ops o fr:=⟨h.1,h.2.trans l⟩
end
structure Z8(X:Ctx)(fn:Func)(V:Nat)(Q:WJ->H->Prop)(e:XX)(s:Fs):Prop where
 out:∃pm E h',xPM e=some pm/\Q E h'/\Y7 X (.leave fn V pm s) (.fin E h')
def WF.ZOQ{f:V3}{fn:Func}{c:Code}{args:V5 N}{Q:WJ->H->Prop}(D:X.fns.get f=some fn)(G:fn.body=some c)(hn:args.toList.length<=fn.ntmps)
 (k:WC X fn.ntmps V none c {fr:=QI args.toList 0 .nil,ds:=[],h:=h} (Z8 X fn V Q)):WF X f args V h Q:=by
 have⟨e,s',⟨pm,E,h',hpm,hq,hj⟩,ka⟩:=k;refine⟨E,h',hq,?_⟩;intro ρ q w A y hv
 have F:Inv ρ fn.ntmps {fr:=QI args.toList 0 .nil,ds:=[],h:=h} {tmps:=q++Array.replicate (fn.ntmps-q.size) undef,defers:=[]} w:=
  ⟨y,Zba hv hn,.nil⟩
 refine callsIn_of_wp_marks (X.ok f fn D).1 G (Zlg D) (wpIn_mono (ka ρ _ w base A F rfl) ?_);rintro I C w' ⟨r,he,t,p⟩;cases he with
 | normal=>cases hpm;exact hj r _ C .returning w' _ (KK A p.size) t .ret (fun _ _ x=>ZaN.trans y.lt p x)
 | ret=>cases hpm;exact hj r _ C .returning w' _ (KK A p.size) t .ret (fun _ _ x=>ZaN.trans y.lt p x)
 | panic B=>cases hpm;exact hj r _ C _ w' _ (KK A p.size) t (.Ym B) (fun _ _ x=>ZaN.trans y.lt p x)
 | exit id=>cases hpm
 | goto l=>cases hpm
def WF.Qj{f:V3}{fn:Func}{c:Code}{args:U N}{n:Nat}{R:WJ->H->Prop}(p:X.fns.get f=some fn)(q:fn.body=some c)(l:fn.ntmps=n)(hn:args.length<=n)
 (k:WC X n V none c ⟨QI args 0 .nil,[],h,none⟩ (Z8 X fn V R)):WF X f args.toArray V h R:=by
 subst l;exact WF.ZOQ p q hn k
def Zyn{fn:Func}{v:N}{wr:O Nat}(hv:Q9 X.P fn fr h=some v):Y7 X (.leave fn V .ret ⟨fr,[],h,wr⟩) (.fin (.ret v) h):=by refine Us (C:=cfg X fun _=>false) (ih:=fun _=>none) (fun _ _ h=>by cases h) ?_;have l:Q9 (cfg X fun _=>false).X.P fn fr h=some v:=hv;unfold Kk;simp only[l]
def Znw{fn:Func}{l:PM}{r:Nat}{wr:O Nat}{E:WJ}{q:H}(p:h.at r=.deferred)(hw:V<=r)(t:Y7 X (.leave fn V l ⟨fr,ds,h.put r .dead,wr⟩) (.fin E q)):Y7 X (.leave fn V l ⟨fr,⟨.collected r,#[]⟩::ds,h,wr⟩) (.fin E q):=by refine Us (C:=cfg X fun _=>false) (ih:=Jb (.leave fn V l ⟨fr,ds,h.put r .dead,wr⟩) (.fin E q)) (Xx t) ?_;unfold Kk;dsimp only;rw[p];dsimp only;rw[Nm0 hw,Cq1];exact Xy _ _
def Z8.gen{fn:Func}{R:N->H->Prop}{l:U ResultVar}{vs:U N}{v:N}(p:fn.results.toList=l)(hv:ZdR X.P fr h l=some vs)(q:(match vs with | [v]=>v|vs=>.tuple vs.toArray)=v)(k:R v h):Z8 X fn V (fun e r=>∃v,e=.ret v/\R v r) .ret ⟨fr,[],h,none⟩:=by refine⟨⟨.ret,.ret v,h,rfl,⟨v,rfl,k⟩,Zyn ?_⟩⟩;unfold Q9;rw[p,hv,<-q];match vs with|[]=>rfl|[_]=>rfl|_::_::_=>rfl
def Z8.col{fn:Func}{R:WJ->H->Prop}{r:Nat}(lo:Nat)(q:lo<=r)(l:h.at r=.deferred)(hw:V<=r)(k:∀p,Up lo (fun i=>i=r) h p->Z8 X fn V R .ret ⟨fr,ds,p,none⟩):Z8 X fn V R .ret ⟨fr,⟨.collected r,#[]⟩::ds,h,none⟩:=by have hu:Up lo (fun i=>i=r) h (h.put r .dead):=Up.put q (by rw[l];rfl);have⟨pm,E,p,hpm,hq,hj⟩:=(k _ hu).out;cases hpm;exact⟨⟨.ret,E,p,rfl,hq,Znw l hw hj⟩⟩
def Z8.YC{fn:Func}{R:WJ->H->Prop}{s:Fs}(k:Z8 X fn V R .ret s):Z8 X fn V R .normal s:=by have⟨pm,E,h',hpm,hq⟩:=k.out;cases hpm;exact⟨⟨.ret,E,h',rfl,hq⟩⟩
def WO.Xm{ops:V5 Oper}{q:U Oper}{d:Nat}{l:Op}{ty:J}{p:String}{af:V5 Edge}{g:O (Nat×Z)}{rd:O Nat}{c:Z}(r:Ze ops ⟨some d,l,ty,p,af,g⟩ fr c)(x:c=false)(t:Nat.blt d n=true)(k:WO X n V rd ops q ⟨Tr.set fr d undef,ds,h,none⟩ Q):
 WO X n V rd ops (⟨some d,l,ty,p,af,g⟩::q) ⟨fr,ds,h,none⟩ Q:=WO.o (r.off x) t k
def Uj{ev:V0->O N}{d:O Tmp}{ty:J}{p:String}{af:V5 Edge}{g:O (Nat×Z)}{f:V3}{xs:V5 V0}{vs:U N}(l:evs ev xs.toList=some vs):XM X h ev ⟨d,.makeFunc (.func f) #[] xs,ty,p,af,g⟩=some (.val (.func (.func f) #[] vs.toArray),.none):=by show(bif Zo1 (.func f) then none else match evs ev [],evs ev xs.toList with|some vs,some us=>some (AN.val (.func (.func f) vs.toArray us.toArray),Eff.none) | _,_=>none)=_;rw[l];rfl
end
section
def ZtU{h:H}{i:Nat}(e:(h.at i).own=true):i<h.size:=by
 rcases Gq i h.size with z|z
 .exact z
 rw[H.Zfc z]at e;cases e
structure Ast(V:Nat) where
 P:H->Prop
 fp:Nat->Prop
 loc:∀{h h':H},Fz V h h'->(∀i,fp i->h'.at i=h.at i)->P h->P h'
 own:∀{h:H}{i:Nat},P h->fp i->V<=i/\(h.at i).own=true
def Dj{V:Nat}(A B:Ast V):Prop:=∀i,A.fp i->B.fp i->False
def Dj.symm{V:Nat}{A B:Ast V}(h:Dj A B):Dj B A:=fun i a b=>h i b a
structure ZV{V:Nat}(G:List (Ast V))(h:H):Prop where
 all:∀A∈G,A.P h
 dis:G.Pairwise Dj
def QA{V:Nat}(G:U (Ast V))(i:Nat):Prop:=∃A∈G,A.fp i
structure Sp(V:Nat)(T:Nat->Prop)(h0:H)(G:List (Ast V))(h:H):Prop where
 wl:V<=h0.size
 fz:Fz V h0 h
 keep:∀i,i<h0.size->¬ T i->h.at i=h0.at i
 hold:ZV G h
 inn:∀i,QA G i->T i\/h0.size<=i
inductive Pk{α:Type}:List α->α->List α->Prop
 | z {A:α} {G:List α}:Pk (A::G) A G
 | s {A B:α} {G G':List α}:Pk G A G'->Pk (B::G) A (B::G')
def Pk.perm{h:Type}{G l:U h}{A:h}(p:Pk G A l):G.Perm (A::l):=by induction p with|z=>exact List.Perm.refl _|s _ ih=>exact(List.Perm.cons _ ih).trans (List.Perm.swap _ _ _)
def Pk.mem{h:Type}{G l:U h}{A:h}(p:Pk G A l):A∈G:=p.perm.mem_iff.2 (by simp)
inductive Sel{α:Type}:List α->List α->List α->Prop
 | n {G:List α}:Sel G [] G
 | c {A:α} {G G1 Ga Gr:List α}:Pk G A G1->Sel G1 Ga Gr->Sel G (A::Ga) Gr
def Sel.perm{h:Type}{G Ga Gr:U h}(p:Sel G Ga Gr):G.Perm (Ga++Gr):=by induction p with|n=>exact List.Perm.refl _|c p _ ih=>exact p.perm.trans (List.Perm.cons _ ih)
section
variable{V:Nat}{G Ga Gb Gr:U (Ast V)}{h h' h0:H}{T t:Nat->Prop}{A B:Ast V}
def ZV.perm(p:G.Perm Ga)(s:ZV G h):ZV Ga h:=⟨fun A m=>s.all A (p.mem_iff.2 m),(p.pairwise_iff (fun h=>Dj.symm h)).1 s.dis⟩
def ZV.left(s:ZV (Ga++Gr) h):ZV Ga h:=⟨fun A m=>s.all A (Q3.2 (.inl m)),(List.pairwise_append.1 s.dis).1⟩
def ZV.right(s:ZV (Ga++Gr) h):ZV Gr h:=⟨fun A m=>s.all A (Q3.2 (.inr m)),(List.pairwise_append.1 s.dis).2.1⟩
def ZV.nil:ZV ([]:U (Ast V)) h:=⟨fun _ m=>by simp at m,.nil⟩
def ZV.one(a:A.P h):ZV [A] h:=⟨fun _ m=>by rw[J1.1 m];exact a,List.pairwise_singleton _ _⟩
def QA.perm(p:G.Perm Ga){i:Nat}(s:QA G i):QA Ga i:=let⟨A,m,f⟩:=s;⟨A,p.mem_iff.1 m,f⟩
def ZV.own(s:ZV G h){i:Nat}(f:QA G i):V<=i/\(h.at i).own=true:=let⟨A,m,f⟩:=f;A.own (s.all A m) f
def Sp.perm(p:G.Perm Ga)(s:Sp V T h0 G h):Sp V T h0 Ga h:=⟨s.wl,s.fz,s.keep,s.hold.perm p,fun i f=>s.inn i (f.perm p.symm)⟩
def Sp.size(s:Sp V T h0 G h):h0.size<=h.size:=s.fz.size
def Sp.hw(s:Sp V T h0 G h):V<=h.size:=KK s.wl s.fz.size
def Sp.Vh{g:H}(s:Sp V T h0 G h)(e:g.size=h.size):V<=g.size:=by rw[e];exact s.hw
def Sp.start(hw:V<=h.size)(s:ZV G h):Sp V (QA G) h G h:=⟨hw,Fz.refl _ _,fun _ _ _=>rfl,s,fun _ f=>.inl f⟩
def Sp.step(s:Sp V T h0 (Ga++Gr) h)(u:Up V t h h')(y:∀i,t i->QA Ga i)(E:ZV Gb h')(D:∀i,QA Gb i->QA Ga i\/h.size<=i):Sp V T h0 (Gb++Gr) h':=by
 have F:=(List.pairwise_append.1 s.hold.dis).2.2;have l:∀i,QA Ga i->QA Gr i->False:=fun i ⟨A,m,f⟩ ⟨B,p,f'⟩=>F A m B p i f f';have r:=s.hold.right;refine⟨s.wl,s.fz.trans (u.fz Vc),fun i C hn=>?_,⟨fun A m=>?_,?_⟩,fun i f=>?_⟩
 .have x:¬ t i:=fun q=>by
   rcases s.inn i (by have⟨A,m,f⟩:=y i q;exact⟨A,Q3.2 (.inl m),f⟩) with z|z
   .exact hn z
   omega
  rw[u.keep i (G3 C s.size) x,s.keep i C hn]
 .rcases Q3.1 m with m|m
  .exact E.all A m
  exact A.loc (u.fz Vc) (fun i f=>u.keep i (ZtU (A.own (r.all A m) f).2) (fun q=>l i (y i q) ⟨A,m,f⟩)) (r.all A m)
 .refine List.pairwise_append.2 ⟨E.dis,r.dis,fun B m A p i f f'=>?_⟩;rcases D i ⟨B,m,f⟩ with z|z
  .exact l i z ⟨A,p,f'⟩
  exact absurd (ZtU (A.own (r.all A p) f').2) (Nat.not_lt_of_le z)
 have⟨A,m,f⟩:=f;rcases Q3.1 m with m|m
 .rcases D i ⟨A,m,f⟩ with⟨B,p,f'⟩|z
  .exact s.inn i ⟨B,Q3.2 (.inl p),f'⟩
  exact .inr (KK s.size z)
 exact s.inn i ⟨A,Q3.2 (.inr m),f⟩
def Sp.new(s:Sp V T h0 Gr h)(u:Up V (fun _=>False) h h')(p:B.P h')(l:∀i,B.fp i->h.size<=i):Sp V T h0 (B::Gr) h':=
 Sp.step (Ga:=[]) (Gb:=[B]) s u (fun _ z=>z.elim) (ZV.one p) fun i ⟨A,m,f⟩=>by rw[J1.1 m]at f;exact .inr (l i f)
def Sp.up(s:Sp V T h0 Gr h)(u:Up V (fun _=>False) h h'):Sp V T h0 Gr h':=
 Sp.step (Ga:=[]) (Gb:=[]) s u (fun _ z=>z.elim) ZV.nil fun i ⟨A,m,f⟩=>by simp at m
def Sp.one(p:Pk G A Gr)(s:Sp V T h0 G h)(u:Up V t h h')(l:∀i,t i->A.fp i)(x:B.P h')(r:∀i,B.fp i->A.fp i\/h.size<=i):Sp V T h0 (B::Gr) h':=
 Sp.step (Ga:=[A]) (Gb:=[B]) (s.perm p.perm) u (fun i q=>⟨A,by simp,l i q⟩) (ZV.one x) fun i ⟨C,m,f⟩=>by
   rw[J1.1 m]at f;exact(r i f).imp (fun z=>⟨A,by simp,z⟩) id
def Sp.get(s:Sp V T h0 G h)(p:Pk G A Gr):A.P h:=s.hold.all A p.mem
def Sp.drop(p:Pk G A Gr)(s:Sp V T h0 G h):Sp V T h0 Gr h:=by have s:=s.perm p.perm;exact⟨s.wl,s.fz,s.keep,ZV.right (Ga:=[A]) s.hold,fun i ⟨B,m,f⟩=>s.inn i ⟨B,by simp[m],f⟩⟩
def Sp.only(p:Sel G Ga Gr)(s:Sp V T h0 G h):Sp V T h0 Ga h:=by have s:=s.perm p.perm;exact⟨s.wl,s.fz,s.keep,s.hold.left,fun i ⟨B,m,f⟩=>s.inn i ⟨B,by simp[m],f⟩⟩
def Sp.add(s:Sp V T h0 G h)(p:A.P h)(l:∀i,¬ A.fp i):Sp V T h0 (A::G) h:=
 ⟨s.wl,s.fz,s.keep,⟨fun B m=>by rcases K2.1 m with m|m;· rw[m];exact p
                                .exact s.hold.all B m,GV.2 ⟨fun B _ i f _=>l i f,s.hold.dis⟩⟩,fun i ⟨B,m,f⟩=>by
   rcases K2.1 m with m|m
   .rw[m]at f;exact absurd f (l i)
   exact s.inn i ⟨B,m,f⟩⟩
def Sp.say(s:Sp V T h0 (Ga++Gr) h)(p:ZV Gb h)(l:∀i,QA Gb i->QA Ga i):Sp V T h0 (Gb++Gr) h:=
 Sp.step (t:=fun _=>False) s ⟨K1 _,fun _ _ _=>rfl,fun _ z=>z.elim⟩ (fun _ z=>z.elim) p fun i f=>.inl (l i f)
def Sp.call(p:Sel G Ga Gr)(s:Sp V T h0 G h)(c:Sp V (QA Ga) h Gb h'):Sp V T h0 (Gb++Gr) h':=by have s:=s.perm p.perm;exact Sp.step s ⟨c.size,c.keep,fun i f=>s.hold.left.own f⟩ (fun _ q=>q) c.hold c.inn
def Sp.Zac(p:Sel G Ga Gr)(s:Sp V T h0 G h):ZV Ga h:=(s.hold.perm p.perm).left
end
def bx(V b:Nat)(cs:U N):Ast V where
 P:=fun h=>h.at b=.row cs true 0/\V<=b
 fp:=fun i=>i=b
 loc:=fun _ k ⟨h1,h2⟩=>⟨by rw[k b rfl,h1],h2⟩
 own:=fun⟨h1,h2⟩ e=>by subst e;exact⟨h2,by rw[h1];rfl⟩
def ow{r:Type}(V:Nat)(e:U8 r)(a:O Addr)(n c:Nat)(xs:U r):Ast V where
 P:=fun h=>n=xs.length/\Kg e V V h a c xs
 fp:=Uh a
 loc:=fun f k ⟨h1,s⟩=>⟨h1,s.max,s.mem.imp id fun⟨i,o,cs,l,q,p,y,x,t⟩=>⟨i,o,cs,l,q,by rw[k i ⟨o,l⟩,p],y,x,t.mono f⟩⟩
 own:=fun⟨_,s⟩ ⟨o,e⟩=>by
  rcases s.mem with⟨h1,_⟩|⟨i,A,cs,l,q,p,_⟩
  .rw[h1]at e;cases e
  rw[l]at e;cases e;exact⟨q,by rw[p];rfl⟩
def mp{r p:Type}(V:Nat)(kv:r->N)(vv:p->N)(m:O Nat)(l:U (r×p)):Ast V where
 P:=fun h=>ZcF kv vv V h m l
 fp:=fun i=>m=some i
 loc:=fun _ k s=>⟨s.at_.keep k,s.low⟩
 own:=fun{h i} s e=>⟨s.low i e,by
  rcases s.at_.mem with⟨q,_⟩|⟨j,bs,t,q,h1,_⟩
  .rw[q]at e;cases e
  rw[q]at e;cases e;rw[h1];rfl⟩
def Z9{l:Type}(V:Nat)(r:U8 l)(p:r.Par)(x:l):Ast V where
 P:=fun h=>r.F V h p x
 fp:=fun _=>False
 loc:=fun f _ s=>r.mono f s
 own:=fun _ z=>z.elim
def ob(V b:Nat)(A:Xv):Ast V where
 P:=fun h=>h.at b=A/\V<=b/\A.own=true
 fp:=fun i=>i=b
 loc:=fun _ k ⟨h1,h2⟩=>⟨by rw[k b rfl,h1],h2⟩
 own:=fun⟨h1,h2,l⟩ e=>by subst e;exact⟨h2,by rw[h1];exact l⟩
section
variable{V:Nat}{G Gr:U (Ast V)}{h h0:H}{T:Nat->Prop}
def Sp.Jo{b:Nat}{cs:U N}(s:Sp V T h0 G h)(p:Pk G (bx V b cs) Gr):At h b 0 cs:=At.box (s.get p).1
def Sp.Qi{l:Type}{e:U8 l}{a:O Addr}{n c:Nat}{xs:U l}(s:Sp V T h0 G h)(p:Pk G (ow V e a n c xs) Gr):Src e V h a c xs:=(s.get p).2.src
def Sp.ord{l:Type}{e:U8 l}{a:O Addr}{n c:Nat}{xs:U l}(s:Sp V T h0 G h)(p:Pk G (ow V e a n c xs) Gr):Sl e h.size h a c xs:=(s.Qi p).sl s.hw
def Sp.on{l:Type}{e:U8 l}{a:O Addr}{n c:Nat}{xs:U l}(s:Sp V T h0 G h)(p:Pk G (ow V e a n c xs) Gr):n=xs.length:=(s.get p).1
def Sp.mrd{r q:Type}{kv:r->N}{vv:q->N}{m:O Nat}{l:U (r×q)}(s:Sp V T h0 G h)(p:Pk G (mp V kv vv m l) Gr):ZiD kv vv h.size h m l:=MapAt.all (s.get p).at_
def Sp.sl{l:Type}{e:U8 l}{a:O Addr}{c:Nat}{xs:U l}(s:Sp V T h0 G h)(f:Sl e V h0 a c xs):Sl e V h a c xs:=f.mono s.fz
def Sp.slu{l:Type}{e:U8 l}{a:O Addr}{c:Nat}{xs:U l}(s:Sp V T h0 G h)(f:Sl e V h0 a c xs):Sl e h.size h a c xs:=(f.mono s.fz).up s.hw
end
end
section
variable{X:Ctx}{n V:Nat}{rd:O Nat}{ops:V5 Oper}{l:U Oper}{fr:Fr}{ds:U V7}{h h1 h2:H}{ty:J}{p:String}{af:V5 Edge}{g:O (Nat×Z)}{m:Nat}
def VV(h h2:H)(xs:U Nat)(x:Nat):Prop:=(x<h.size/\x∈xs)\/h2.size<=x
structure ST where
 s:List (Nat×(Nat->Prop))
 m:List (Nat×(Nat->Prop))
 p:List (Nat×Nat×Nat×(Xv->Prop))
def ST.nil:ST:=⟨[],[],[]⟩
structure ZVU(X:Ctx)(n V:Nat)(rd:Option Nat)(ops:Array Oper)(o:Oper)(T:Nat->Prop)(xs:List Nat)(h:H)(fr:Fr)(v:Value)(h2:H):Prop where
 run:V<=h.size->∃h1,h2=QW xs h h1/\Ua X.P V rd ops o T fr (mask xs h) v h1/\KI T (mask xs h) h1
 wmT:∀x,T x->V<=x
 dst:∀d,o.dst=some d->d<n
 hl:YD o=true->(∀x,¬ T x)/\h2=h/\∀g,Ua X.P V rd ops o (fun _=>False) fr g v g
 mx:∀x,T x->x<h.size->x∉xs
abbrev Cmp(ops:V5 Oper)(i j:Nat):Prop:=comp (J2 ops.toList 0 []) i j=true
abbrev PsT:=O (Nat×Nat×(Xv->Prop))
structure WE(X:Ctx)(n V:Nat)(rd:Option Nat)(ops:Array Oper)(sf:ST)(m:Nat)(h:H)(l:List Oper)(fr:Fr)(Q:Fr->H->Prop):Prop where
 out:∃(hs:Nat->H) (fs:Nat->Fr) (vs:Nat->Value) (Ts:Nat->Nat->Prop) (xs:Nat->List Nat) (ps:Nat->PsT),hs 0=h/\fs 0=fr/\Q (fs l.length) (hs l.length)/\∀k o,l[k]? =some o ->
  ZVU X n V rd ops o (Ts k) (xs k) (hs k) (fs k) (vs k) (hs (k+1))/\fs (k+1)=U6 (fs k) o.dst (vs k)/\
  (∀x,Ts k x->x<(hs k).size->∀i o',i<m+k->ops.toList[i]? =some o'->Cmp ops i (m+k)\/YD o'=true\/(∃V'',(i,V'')∈sf.s/\V'' x)\/(∃C,(i,x,m+k,C)∈sf.p/\C ((hs (k+1)).at x))\/
    ∃i',i=m+i'/\i'<k/\(VV (hs i') (hs (i'+1)) (xs i') x\/∃C,ps i'=some (x,m+k,C)/\C ((hs (k+1)).at x)))/\
  (YD o=false->(∀q∈sf.m,Cmp ops q.1 (m+k)\/∀x,q.2 x->VV (hs k) (hs (k+1)) (xs k) x)/\∀i',i'<k->Cmp ops (m+i') (m+k)\/∀x,Ts i' x->x<(hs i').size->VV (hs k) (hs (k+1)) (xs k) x)/\
  (∀x j C,ps k=some (x,j,C)->xs k=[]/\(∀y,¬ Ts k y)/\hs (k+1)=hs k/\Prm X.P V rd ops o (fs k) (hs k) (vs k) x C)
variable{sf:ST}{Q:Fr->H->Prop}
def WE.nil(k:Q fr h):WE X n V rd ops sf m h [] fr Q:=⟨fun _=>h,fun _=>fr,fun _=>undef,fun _ _=>False,fun _=>[],fun _=>none,rfl,rfl,k,fun k o e=>by simp at e⟩
def WE.cons{o:Oper}{v:N}{T:Nat->Prop}{xs0:U Nat}(S to:U (Nat×(Nat->Prop)))(p0:PsT)(h1:ZVU X n V rd ops o T xs0 h fr v h2)
 (I:∀q∈S,q.1=m/\∀x,q.2 x->VV h h2 xs0 x) (G:∀x,T x->x<h.size->∃q∈to,q.1=m/\q.2 x)
 (c1:∀x,T x->x<h.size->∀i t,i<m->ops.toList[i]? =some t->Cmp ops i m\/YD t=true\/(∃V'',(i,V'')∈sf.s/\V'' x)\/∃C,(i,x,m,C)∈sf.p/\C (h2.at x))
 (c2:YD o=false->∀q∈sf.m,Cmp ops q.1 m\/∀x,q.2 x->VV h h2 xs0 x)
 (hp:∀x j C,p0=some (x,j,C)->xs0=[]/\(∀y,¬ T y)/\h2=h/\Prm X.P V rd ops o fr h v x C)
 (k:WE X n V rd ops ⟨S++sf.s,to++sf.m,(p0.map fun q=>(m,q.1,q.2.1,q.2.2)).toList++sf.p⟩ (m+1) h2 l (U6 fr o.dst v) Q):WE X n V rd ops sf m h (o::l) fr Q:=by
 have⟨gs,fs,vs,Ts,xs,ps,e0,e1,K,hk⟩:=k;refine⟨fun k=>match k with|0=>h|k+1=>gs k,fun k=>match k with|0=>fr|k+1=>fs k,fun k=>match k with|0=>v|k+1=>vs k,fun k=>match k with|0=>T|k+1=>Ts k,fun k=>match k with|0=>xs0|k+1=>xs k,fun k=>match k with|0=>p0|k+1=>ps k,rfl,rfl,K,fun k t r=>?_⟩;cases k with
 | zero=>
   simp at r;subst r;dsimp only;rw[e0];refine⟨h1,e1,fun x B D i t L r=>?_,fun F=>⟨c2 F,fun A E=>absurd E (Nat.not_lt_zero _)⟩,hp⟩;rcases c1 x B D i t L r with z|z|z|z
   .exact .inl z
   .exact .inr (.inl z)
   .exact .inr (.inr (.inl z))
   exact .inr (.inr (.inr (.inl z)))
 | succ k=>
   have⟨k1,k2,k3,k4,k5⟩:=hk k t (by simpa using r);have e:m+1+k=m+(k+1):=Vb;rw[e]at k3 k4;dsimp only;refine⟨k1,k2,fun x B D i t L r=>?_,fun F=>⟨fun q K=>(k4 F).1 q (Q3.2 (.inr K)),fun A E=>?_⟩,k5⟩
   .rcases k3 x B D i t L r with z|z|⟨V'',z1,z2⟩|⟨C,z1,z2⟩|⟨A,q1,q2,q3⟩
    .exact .inl z
    .exact .inr (.inl z)
    .rcases Q3.1 z1 with z1|z1
     .have⟨w1,w2⟩:=I _ z1;dsimp only at w1 w2;subst w1;refine .inr (.inr (.inr (.inr ⟨0,rfl,Nat.succ_pos _,.inl ?_⟩)));dsimp only;rw[e0];exact w2 x z2
     exact .inr (.inr (.inl ⟨V'',z1,z2⟩))
    .rcases Q3.1 z1 with z1|z1
     .cases p0 with|none=>simp at z1|some q=>
        simp at z1;have⟨w1,w2,w3,w4⟩:=z1;subst w1;exact .inr (.inr (.inr (.inr ⟨0,rfl,Nat.succ_pos _,.inr ⟨C,by show some q=_;rw[w2,w3,w4],z2⟩⟩)))
     exact .inr (.inr (.inr (.inl ⟨C,z1,z2⟩)))
    exact .inr (.inr (.inr (.inr ⟨A+1,by omega,by omega,q3⟩)))
   cases A with
   | zero=>
     dsimp only;by_cases W:Cmp ops (m+0) (m+(k+1));.exact .inl W
     refine .inr fun x B D=>?_;have⟨q,q1,q2,q3⟩:=G x B D;rcases(k4 F).1 q (Q3.2 (.inl q1)) with z|z
     .rw[q2]at z;exact absurd z W
     exact z x q3
   | succ A=>
     have:=(k4 F).2 A Vb;have e2:m+1+A=m+(A+1):=Vb;rw[e2]at this;exact this
def WC.ZU1(hm:X.P.follows .mixedOrders=true){id:Nat}{R:XX->Fs->Prop}(S:(plan ops.toList).isSome=true)(k:WE X n V rd ops ST.nil 0 h ops.toList fr (fun fr' h'=>R .normal ⟨fr',ds,h',none⟩)):WC X n V rd (.region id ops true) ⟨fr,ds,h,none⟩ R:=by
 obtain⟨gs,fs,vs,ts,xs,ps,e0,e1,hq,B⟩:=k;obtain⟨Qn,S⟩:=GJ.1 S;refine⟨.normal,_,hq,fun ρ a w F ZG hi hF=>?_⟩;unfold plan ZJr at S;cases I:(UI Zij ops.toList 0&&UI (Zt6 ops.toList (J2 ops.toList 0 [])) ops.toList 0&&UI (Zsx ops.toList) ops.toList 0)<;>rw[I]at S<;>simp only[Cq1,Cq0]at S
 ·cases S
 rw[Ba0,Ba0]at I;obtain⟨⟨ZrE,ZBQ⟩,G⟩:=I;have ZrE:=Qx _ _ ZrE;have ZBQ:=Qx _ _ ZBQ;have G:=Qx _ _ G;have l:∀{k:Nat}{o:Oper},ops[k]? =some o->ops.toList[k]? =some o:=fun h=>by rwa[Gi]
 have hspec:=(Zq2 ops.toList 0 [] rfl).2
 have hwk:∀k,k<=ops.size->V<=(gs k).size:=by
  intro k
  induction k with|zero=>intro _;rw[e0];exact ZG|succ k ih=>
    intro hk';have hlt:k<ops.size:=Vb
    have p:ops.toList[k]? =some ops[k]:=by simp[hlt]
    obtain⟨h1,T,_,A⟩:=(B k _ p).1.run (ih Vb);have L:=A.size;rw[Yf]at L;have:=ih Vb;rw[T,Qv];omega
 have hlt:∀{k:Nat}{o:Oper},ops[k]? =some o->k<ops.size:=fun h=>(G4.1 h).1
 have r:∀{k:Nat}(hl:k<ops.size),ops.toList[k]? =some ops[k]:=fun hl=>by simp[hl]
 classical
 let sft:Nat->O (Nat×Nat):=fun i=>match ps i with|none=>none|some (x,j,C)=>if i<j/\j<ops.size/\ts j x/\C ((gs (j+1)).at x) then some (x,j) else none
 have ZAm:∀i x j,sft i=some (x,j)->∃C,ps i=some (x,j,C)/\i<j/\j<ops.size/\ts j x/\C ((gs (j+1)).at x):=by
  intro i x j e;dsimp only[sft]at e;cases S:ps i with|none=>rw[S]at e;cases e|some q=>
    obtain⟨y,j',C⟩:=q;rw[S]at e;dsimp only at e;split at e
    ·rename_i K;cases e;exact⟨C,rfl,K⟩
    cases e
 let D:Data X.P n V rd ops:= {
  hs:=gs,fs:=fs,vs:=vs,mo:=ts,Xs:=xs,soft:=sft,hl:=fun i=>hlAt ops.toList i,Pb:=fun j k=>bit ((J2 ops.toList 0 []).getD j 0) k=true
  ZvX:=hwk 0 (GH _)
  step:=fun k o p=>by
   obtain⟨h1,T,L,A⟩:=(B k o (l p)).1.run (hwk _ (Nat.le_of_lt (hlt p)));exact⟨h1,L,A,T,(B k o (l p)).2.1⟩
  wmM:=fun k x hkl W=>(B k _ (r hkl)).1.wmT x W
  dst:=fun k o d p hd=>(B k o (l p)).1.dst d hd
  Zjz:=fun j k hb=>by
   obtain⟨o,p,e,he,hb,B⟩:=hspec j k (GH _) hb;exact⟨o,e,by rw[<-Gi];simpa using p,by simpa using he,hb,B⟩
  Zxm:=fun j o e p he hb=>by
   have:=ZrE j o (l p);unfold Zij at this;rw[Q2]at this;have:=this e (by simpa using he);rw[hb]at this
   simpa[Gd]using this
  inc:=fun i j E hjl hij h1 h2 hhl x W Q=>by
   have nc:¬ Cmp ops i j:=fun q=>by
    rcases Zxr q with y|y
    ·exact h1 y
    exact h2 y
   have K:YD ops[i]=false:=by
    have:hlAt ops.toList i=false:=hhl;unfold hlAt at this;rw[r E]at this;exact this
   rcases Gq i j with hlt'|hge
   ·have:=(B j _ (r hjl)).2.2.1 x W Q i _ Vb (r E);rw[Gc]at this;rcases this with q|q|⟨V'',q,_⟩|⟨C,q,_⟩|⟨i',T,L,A⟩
    ·exact absurd q nc
    ·rw[K]at q;cases q
    ·simp[ST.nil]at q
    ·simp[ST.nil]at q
    rw[Gc]at T;subst T;rcases A with A|⟨C,A,q4⟩
    ·exact A.imp (fun z=>⟨z.1,.inl z.2⟩) (fun z=>z)
    left;have hpr:=(B i _ (r E)).2.2.2.2 x j C A;refine⟨hpr.2.2.2.1,.inr ?_⟩;dsimp only[sft];rw[A];dsimp only;rw[if_pos ⟨L,hjl,W,q4⟩]
   have:=((B i _ (r E)).2.2.2.1 K).2 j Vb;rw[Gc,Gc]at this;rcases this with q|q
   ·exact absurd (by unfold Cmp;rw[ZEd hij];exact q) nc
   exact(q x W Q).imp (fun z=>⟨z.1,.inl z.2⟩) (fun z=>z)
  ZSV:=fun i o p K=>by
   have hq:YD o=true:=by unfold hlAt at K;rw[l p]at K;exact K
   obtain⟨z1,z2,z3⟩:=(B i o (l p)).1.hl hq;exact⟨z1,by rw[z2],z3⟩
  ZAh:=fun i o x j p K=>by
   obtain⟨C,s1,s2,s3,s4,s5⟩:=ZAm i x j K;obtain⟨z0,z1,z2,z3,z4,z5,z6⟩:=(B i o (l p)).2.2.2.2 x j C s1;obtain⟨w1,w2⟩:=z6 _ s5;exact⟨s2,s3,z3,z1,by rw[z2],z4,w1,by rw[z0];exact z5,by rw[z0];exact w2⟩
  MX:=fun i x E W Q=>(B i _ (r E)).1.mx x W Q
  looks:=fun i o t p ht k o' ho' hd=>by
   have:=ZBQ i o (l p);unfold Zt6 at this;rw[Q2]at this;have:=Qx _ _ (this t ht) k o' (l ho');rw[ZjM.2 hd]at this;simp only[Cq1,Bool.or_eq_true,Gc]at this;rcases this with z|z
   ·exact .inl (Nb0 z)
   exact .inr (Zxr z)
  ZOW:=fun i j o o' t p ho' hd hd'=>by
   have:=G i o (l p);unfold Zsx at this;rw[hd]at this;have:=Qx _ _ this j o' (l ho');rw[ZjM.2 hd']at this;simp only[Cq1,Gc]at this;exact(Nb0 this).symm}
 have hi2:Inv ρ n {fr:=D.fs 0,ds:=ds,h:=D.hs 0} a w:=⟨by show Rel ρ (gs 0) w;rw[e0];exact hi.rel,by show FrR ρ (fs 0) n a.tmps;rw[e1];exact hi.fr,hi.ds⟩
 have:=D.region hm hi2 hF id;have hlen:ops.toList.length=ops.size:=by simp
 rw[hlen];refine wpIn_mono this fun e' a' w' ⟨ρ',T,L,A⟩=>⟨ρ',T,⟨L.rel,L.fr,L.ds⟩,?_⟩
 have e0':D.hs 0=h:=e0;rw[e0']at A;exact A
end
section
variable{X:Ctx}{n V:Nat}{rd:O Nat}{ops:V5 Oper}{l:U Oper}{fr:Fr}{ds:U V7}{h h1 h2 h0:H}{ty:J}{p:String}{af:V5 Edge}{g:O (Nat×Z)}{m:Nat}
def ZcO{d:O Tmp}{r:Op}{v:N}{E:Eff}(B:Yg ops ⟨d,r,ty,p,af,g⟩ fr)(l:XM X h (YI fr) ⟨d,r,ty,p,af,g⟩=some (.val v,E)\/XM X h (YI fr) ⟨d,r,ty,p,af,g⟩=some (.skip,E)/\v=undef)(y:E.apply V h=some h1):
 Ua X.P V rd ops ⟨d,r,ty,p,af,g⟩ (fun x=>E.tgt=some x) fr h v h1/\(V<=h.size->KI (fun x=>E.tgt=some x) h h1)/\(V<=h.size->∀x,E.tgt=some x->V<=x):=by
 have q:ZaH X (fun _=>true) (fun _=>none) ((d.getD 0)+1) V none false ops.toList ⟨d,r,ty,p,af,g⟩ fr h=some (E.tgt,v,h1):=by
  unfold ZaH;dsimp only;rw[B.1,B.2];cases d with
  | none=>
    rcases l with l|⟨l,rfl⟩
    .rw[l];dsimp only[J0,Cq0,Cq1];rw[y];rfl
    rw[l];dsimp only[J0,Cq0,Cq1];rw[y];rfl
  | some t=>
    have:Nat.blt t (t+1)=true:=by rw[Gd];omega
    have C:(Nat.blt t ((some t).getD 0+1)&&allowed none t)=true:=by dsimp only[Option.getD];rw[this];rfl
    dsimp only at C ⊢;rw[C];rcases l with l|⟨l,rfl⟩
    .rw[l];dsimp only[J0,Cq0,Cq1];rw[y];rfl
    rw[l];dsimp only[J0,Cq0,Cq1];rw[y];rfl
 have A:MOf false V E.tgt=fun x=>E.tgt=some x:=ZVW V E.tgt;refine⟨?_,fun hw=>?_,fun hw x D=>?_⟩;.rw[<-A];exact ZlZ (ZaS X) Zef q
 .rw[<-A];exact(Zl0 Zef q hw).1
 exact(Zl0 Zef q hw).2.1 x (by rw[A];exact D)
def Zn8{o:Oper}{f:V3}{args:V5 N}{p:Nat}{v:N}(S:Yg ops o fr)(E:XM X h (YI fr) o=some (.enter f args,.none))(hl:p<=h.size)(hj:Y7 X (.call f args p h) (.fin (.ret v) h2)):
 Ua X.P V rd ops o (fun x=>p<=x/\(h.at x).own=true) fr h v h2:=by
 intro ρ a w F K Q r ZG T t hK;rw[ZdP ops o T S.1,S.2,if_pos rfl];have⟨ev2,e1,e2⟩:=Zi2 ops o T E;have⟨ρ1,w1,p1,p2,p3⟩:=ZbF r e1 e2;have W:Eff.apply V h .none=some h:=rfl;have⟨r1,st1⟩:=Eff.sound r ZG p1 W p2;have⟨sm,km,ZBq⟩:=Eff.ZQR r ZG p1 W p2;refine⟨fun f D=>(ZaD t f).2 (Zca E p3 D),?_⟩
 have Zo5:o.semAt F.round a.eval=execOp a.eval o:=by
  cases C:rd with|none=>rw[C]at t;unfold FR' at t;subst t;rfl|some l=>
    refine Oper.semAt_eq _ _ _ fun c hc=>?_;have⟨d,h1⟩:=Ziv E hc;simp at h1
 rw[Zo5];have ZHb:F.depth.isSome=true->1<=0:=fun L=>by rw[ZaZ t]at L;cases L
 have G:=t.mono st1.ext;generalize I:(execOp a.eval o).run X.P w=res at p3;obtain⟨q,A,rfl⟩:=p3;refine⟨ZHb,(Jl G (hj ρ1 q w1 hl r1 A)).mono ?_⟩;rintro e' w' ⟨y,he,hr,B⟩;cases he with|@ret _ v' hv=>
   have st2:Zai (fun x=>p<=x/\(h.at x).own=true) ρ1 h w1 y w':=B.toM.Znc (fun i _ h2 h3=>⟨h2,h3⟩) r1.lt;have toM:Zai (fun x=>p<=x/\(h.at x).own=true) ρ h w ρ1 w1:=sm.weaken (fun i _ hi=>by cases hi) r.lt;exact hK y v' w' hv hr (toM.trans r.lt Vc (fun _ _ z=>z) st2)
structure WX(X:Ctx)(n V:Nat)(rd:Option Nat)(ops:Array Oper)(sf:ST)(m:Nat)(h:H)(l:List Oper)(fr:Fr)(Q:Fr->H->Prop):Prop where
 out:(∀q∈sf.m,∀x,q.2 x->x<h.size)->WE X n V rd ops sf m h l fr Q
variable{sf:ST}{Q:Fr->H->Prop}
def WC.XU(t:X.P.follows .mixedOrders=true){id:Nat}{R:XX->Fs->Prop}(r:(plan ops.toList).isSome=true)(k:WX X n V rd ops ST.nil 0 h ops.toList fr (fun l x=>R .normal ⟨l,ds,x,none⟩)):WC X n V rd (.region id ops true) ⟨fr,ds,h,none⟩ R:=
 WC.ZU1 t r (k.out fun q p=>by simp[ST.nil]at p)
def WX.nil(k:Q fr h):WX X n V rd ops sf m h [] fr Q:=⟨fun _=>WE.nil k⟩
def okM(ops:V5 Oper)(h:ST)(m:Nat)(o:Oper):Z:=(h.m.all fun q=>comp (J2 ops.toList 0 []) q.1 m)||YD o
def Zax{o:Oper}(h:okM ops sf m o=true):YD o=false->∀q∈sf.m,Cmp ops q.1 m:=fun p q l=>by
 unfold okM at h;rw[p,Bool.or_false,Q2]at h;exact h q l
def okB(ops:V5 Oper)(m:Nat)(h:U Nat):Z:=UI (fun i o=>Nat.ble m i||comp (J2 ops.toList 0 []) i m||YD o||h.any (Nat.beq i)) ops.toList 0
def Zq6{is:U Nat}(h:okB ops m is=true){i:Nat}{o:Oper}(p:i<m)(l:ops.toList[i]? =some o):Cmp ops i m\/YD o=true\/i∈is:=by
 have:=Qx _ _ h i o l;rw[Gc,Bool.or_eq_true,Bool.or_eq_true,Bool.or_eq_true]at this;rcases this with((q|q) | q) | q
 .have:=Nl0 q;omega
 .exact .inl q
 .exact .inr (.inl q)
 rw[GF]at q;have⟨y,q1,q2⟩:=q;have e:=Nb0 q2;subst e;exact .inr (.inr q1)
def WO.w{Q:XX->Fs->Prop}{d:Nat}{q:Op}{v:N}(r:Yg ops ⟨some d,q,ty,p,af,g⟩ fr)(t:Nat.blt d n=true)(x:XM X h (YI fr) ⟨some d,q,ty,p,af,g⟩=some (.val v,.none))(k:WO X n V rd ops l ⟨Tr.set fr d v,ds,h,none⟩ Q):
 WO X n V rd ops (⟨some d,q,ty,p,af,g⟩::l) ⟨fr,ds,h,none⟩ Q:=WO.v r t x rfl k
def Vd{Q:XX->Fs->Prop}{d:Nat}{q:Op}{v:Value}(t:XM X h (YI fr) ⟨some d,q,ty,p,af,none⟩=some (.val v,.none))(k:WO X n V rd ops l ⟨Tr.set fr d v,ds,h,none⟩ Q)(r:Nat.blt d n=true:=by exact rfl):WO X n V rd ops (⟨some d,q,ty,p,af,none⟩::l) ⟨fr,ds,h,none⟩ Q:=WO.w gN r t k
def WX.w{d:Nat}{r:Op}{v:N}(E:Yg ops ⟨some d,r,ty,p,af,g⟩ fr)(F:Nat.blt d n=true)(B:XM X h (YI fr) ⟨some d,r,ty,p,af,g⟩=some (.val v,.none))(k:WX X n V rd ops sf (m+1) h l (Tr.set fr d v) Q)(I:okM ops sf m ⟨some d,r,ty,p,af,g⟩=true):
 WX X n V rd ops sf m h (⟨some d,r,ty,p,af,g⟩::l) fr Q:=by
 refine⟨fun G=>WE.cons (T:=fun _=>False) (xs0:=[]) (v:=v) [] [] none ?_ (fun _ z=>by simp at z) (fun _ z=>z.elim) (fun _ z=>z.elim) (fun t q D=>.inl (Zax I t q D)) (fun x j C z=>by cases z) (k.out G)⟩
 have A:∀h',XM X h' (YI fr) ⟨some d,r,ty,p,af,g⟩=some (.val v,.none)->Ua X.P V rd ops ⟨some d,r,ty,p,af,g⟩ (fun _=>False) fr h' v h':=fun h' y=>by
  have:=(ZcO (V:=V) (rd:=rd) E (.inl y) (h1:=h') rfl).1;simpa[Eff.tgt]using this
 refine⟨fun hw=>⟨h,rfl,A h B,⟨K1 _,fun _ _ _=>rfl,fun _ _ z=>z,fun _ _ z=>z⟩⟩,fun _ z=>z.elim,fun K e=>(by cases e;rwa[Gd]at F),fun t=>⟨fun _ z=>z,rfl,fun g=>A g ?_⟩,fun _ z=>z.elim⟩;rw[Zp9 h g t];exact B
def Vg{d:Nat}{q:Op}{v:Value}(t:XM X h (YI fr) ⟨some d,q,ty,p,af,none⟩=some (.val v,.none))(k:WX X n V rd ops sf (m+1) h l (Tr.set fr d v) Q)(r:Nat.blt d n=true:=by exact rfl)(x:okM ops sf m ⟨some d,q,ty,p,af,none⟩=true:=by exact rfl):WX X n V rd ops sf m h (⟨some d,q,ty,p,af,none⟩::l) fr Q:=WX.w gN r t k x
def WX.off{d:Nat}{r:Op}(B:Zhs ops ⟨some d,r,ty,p,af,g⟩ fr)(E:Nat.blt d n=true)(k:WX X n V rd ops sf (m+1) h l (Tr.set fr d undef) Q)(G:okM ops sf m ⟨some d,r,ty,p,af,g⟩=true):
 WX X n V rd ops sf m h (⟨some d,r,ty,p,af,g⟩::l) fr Q:=by
 refine⟨fun F=>WE.cons (T:=fun _=>False) (xs0:=[]) (v:=undef) [] [] none ?_ (fun _ z=>by simp at z) (fun _ z=>z.elim) (fun _ z=>z.elim) (fun A q D=>.inl (Zax G A q D)) (fun x j C z=>by cases z) (k.out F)⟩
 have y:∀h',Ua X.P V rd ops ⟨some d,r,ty,p,af,g⟩ (fun _=>False) fr h' undef h':=fun h'=>by
  have t:ZaH X (fun _=>true) (fun _=>none) (d+1) V none false ops.toList ⟨some d,r,ty,p,af,g⟩ fr h'=some (none,undef,h'):=by
   unfold ZaH;dsimp only;have:Nat.blt d (d+1)=true:=by rw[Gd];omega
   rw[this,B.1,B.2];rfl
  have:=ZlZ (rd:=rd) (ZaS X) Zef t;rwa[ZE7]at this
 exact⟨fun hw=>⟨h,rfl,y h,⟨K1 _,fun _ _ _=>rfl,fun _ _ z=>z,fun _ _ z=>z⟩⟩,fun _ z=>z.elim,fun I e=>(by cases e;rwa[Gd]at E),fun A=>⟨fun _ z=>z,rfl,fun g=>y g⟩,fun _ z=>z.elim⟩
def WX.gv{d:Nat}{q:Op}{c:Z}{v:N}(r:Ze ops ⟨some d,q,ty,p,af,g⟩ fr c)(t:Nat.blt d n=true)(y:c=true->XM X h (YI fr) ⟨some d,q,ty,p,af,g⟩=some (.val v,.none))(k:WX X n V rd ops sf (m+1) h l (Tr.set fr d (cond c v undef)) Q)(x:okM ops sf m ⟨some d,q,ty,p,af,g⟩=true):
 WX X n V rd ops sf m h (⟨some d,q,ty,p,af,g⟩::l) fr Q:=by
 cases c;.exact WX.off r t k x
 exact WX.w r t (y rfl) k x
open Classical in
def XV (h:H) (R:Nat ->Prop):List Nat:= (List.range h.size).filter fun x=>decide (¬ R x)
def ZbS{h:H}{R:Nat->Prop}{x:Nat}:x∈XV h R↔x<h.size/\¬ R x:=by unfold XV;simp
def ZBS{R:Nat->Prop}{x:Nat}(l:R x):(mask (XV h R) h).at x=h.at x:=by rw[Q8,if_neg (fun z=>(ZbS.1 z).2 l)]
def Up.hide(lo:Nat)(p:U Nat)(h:H):Up lo (fun _=>False) h (QW p h (mask p h)):=
 ⟨by rw[Qv,Yf];exact K1 _,fun i r _=>by
   rw[UK _ _ _ (by rw[Yf];exact K1 _),Q8];by_cases l:i∈p
   .rw[if_pos ⟨l,r⟩]
   rw[if_neg (fun q=>l q.1),if_neg l],fun _ e=>e.elim⟩
def WX.wr{F:Nat->Prop}{G:U (Ast V)}{d:Nat}{t:Op}{v:N}(R:Nat->Prop)(W:Sp V F h0 G h)(K:Yg ops ⟨some d,t,ty,p,af,g⟩ fr)(L:Nat.blt d n=true)(S:∀E:H,E.size=h.size->(∀x,R x->E.at x=h.at x)->XM X E (YI fr) ⟨some d,t,ty,p,af,g⟩=some (.val v,.none))
 (k:∀D,D.size=h.size->Sp V F h0 G D->WX X n V rd ops ⟨(m,fun x=>¬ R x)::sf.s,sf.m,sf.p⟩ (m+1) D l (Tr.set fr d v) Q) (B:YD ⟨some d,t,ty,p,af,g⟩=false) (hM:okM ops sf m ⟨some d,t,ty,p,af,g⟩=true):
 WX X n V rd ops sf m h (⟨some d,t,ty,p,af,g⟩::l) fr Q:=by
 have r:(QW (XV h R) h (mask (XV h R) h)).size=h.size:=by rw[Qv,Yf]
 refine⟨fun P=>WE.cons (T:=fun _=>False) (xs0:=XV h R) (h2:=QW (XV h R) h (mask (XV h R) h)) (v:=v) [(m,fun x=>¬ R x)] [] none ?_ (fun q A=>?_) (fun _ z=>z.elim) (fun _ z=>z.elim) (fun B q A=>.inl (Zax hM B q A)) (fun x j C z=>by cases z) ((k _ r (W.up (Up.hide V _ h))).out fun q A x y=>by rw[r];exact P q A x y)⟩
 .have:=ZcO (V:=V) (rd:=rd) K (.inl (S _ (Yf _ _) fun x y=>ZBS y)) (h1:=mask (XV h R) h) rfl;have I:(fun x:Nat=>Eff.tgt Eff.none=some x)=fun _=>False:=by funext x;simp[Eff.tgt]
  rw[I]at this;exact⟨fun hw=>⟨_,rfl,this.1,this.2.1 (by rw[Yf];exact hw)⟩,fun _ z=>z.elim,fun d' e=>(by cases e;rwa[Gd]at L),fun q=>Bool.noConfusion (B.symm.trans q),fun _ z=>z.elim⟩
 rw[J1.1 A];refine⟨rfl,fun x y=>?_⟩;rcases Gq x h.size with z|z
 .exact .inl ⟨z,ZbS.2 ⟨z,y⟩⟩
 exact .inr (by rw[r];exact z)
def HV(X:Ctx)(V:Nat)(o:Oper)(fr:Fr)(h:H)(T:Nat->Prop)(K:N->H->Prop):Prop:=∃v E h1,XM X h (YI fr) o=some (.val v,E)/\E.apply V h=some h1/\(∀x,E.tgt=some x->T x)/\h.size<=h1.size/\K v h1
def HU(X:Ctx)(V:Nat)(o:Oper)(fr:Fr)(h:H)(T:Nat->Prop)(K:H->Prop):Prop:=∃E h1,XM X h (YI fr) o=some (.skip,E)/\E.apply V h=some h1/\(∀x,E.tgt=some x->T x)/\h.size<=h1.size/\K h1
def WO.hv{Q:XX->Fs->Prop}{d:Nat}{q:Op}{T:Nat->Prop}{K:N->H->Prop}(t:Yg ops ⟨some d,q,ty,p,af,g⟩ fr)(x:Nat.blt d n=true)(s:HV X V ⟨some d,q,ty,p,af,g⟩ fr h T K)(k:∀v r,K v r->WO X n V rd ops l ⟨Tr.set fr d v,ds,r,none⟩ Q):
 WO X n V rd ops (⟨some d,q,ty,p,af,g⟩::l) ⟨fr,ds,h,none⟩ Q:=let⟨v,_,h1,ha,hE,_,_,hk⟩:=s;WO.v t x ha hE (k v h1 hk)
def WO.hu{Q:XX->Fs->Prop}{q:Op}{T:Nat->Prop}{K:H->Prop}(t:Yg ops ⟨none,q,ty,p,af,g⟩ fr)(s:HU X V ⟨none,q,ty,p,af,g⟩ fr h T K)(k:∀r,K r->WO X n V rd ops l ⟨fr,ds,r,none⟩ Q):
 WO X n V rd ops (⟨none,q,ty,p,af,g⟩::l) ⟨fr,ds,h,none⟩ Q:=let⟨_,h1,ha,hE,_,_,hk⟩:=s;WO.u t ha hE (k h1 hk)
def Y2(h:ST)(T:Nat->Prop)(l:U Nat):Prop:=∀i∈l,∃V'',(i,V'')∈h.s/\∀x,T x->V'' x
def Y2.e{T:Nat->Prop}:Y2 sf T []:=fun _ z=>by simp at z
inductive ZzA(i:Nat)(V'':Nat->Prop):List (Nat×(Nat->Prop))->Prop
 | z {r:List (Nat×(Nat->Prop))}:ZzA i V'' ((i,V'')::r)
 | s {q:Nat×(Nat->Prop)} {r:List (Nat×(Nat->Prop))}:ZzA i V'' r->ZzA i V'' (q::r)
def ZzA.mem{i:Nat}{V'':Nat->Prop}{r:U (Nat×(Nat->Prop))}(h:ZzA i V'' r):(i,V'')∈r:=by induction h with|z=>simp|s _ ih=>simp[ih]
def Y2.c{T V'':Nat->Prop}{i:Nat}{h:U Nat}(l:ZzA i V'' sf.s)(hv:∀x,T x->V'' x)(b:Y2 sf T h):Y2 sf T (i::h):=fun j p=>by
 rcases K2.1 p with z|z
 .subst z;exact⟨V'',l.mem,hv⟩
 exact b j z
def ZBs{d:O Tmp}{A:Op}{v:N}{T:Nat->Prop}{E:Eff}(hg:Yg ops ⟨d,A,ty,p,af,g⟩ fr)(L:∀d',d=some d'->d'<n)(ha:XM X h (YI fr) ⟨d,A,ty,p,af,g⟩=some (.val v,E)\/XM X h (YI fr) ⟨d,A,ty,p,af,g⟩=some (.skip,E)/\v=undef)(hE:E.apply V h=some h1)(S:∀x,E.tgt=some x->T x)(t:h.size<=h1.size)
 (k:WX X n V rd ops ⟨sf.s,(m,fun x=>T x/\x<h.size)::sf.m,sf.p⟩ (m+1) h1 l (U6 fr d v) Q) (B:YD ⟨d,A,ty,p,af,g⟩=false) (W:okM ops sf m ⟨d,A,ty,p,af,g⟩=true) (K:U Nat) (hB:okB ops m K=true) (hi:Y2 sf T K):
 WX X n V rd ops sf m h (⟨d,A,ty,p,af,g⟩::l) fr Q:=by
 refine⟨fun P=>?_⟩;by_cases hw:V<=h.size
 .have D:=ZcO (V:=V) (rd:=rd) hg ha hE
  refine WE.cons (T:=fun x=>E.tgt=some x) (xs0:=[]) (h2:=h1) (v:=v) [] [(m,fun x=>T x/\x<h.size)] none ⟨fun _=>⟨h1,rfl,D.1,D.2.1 hw⟩,D.2.2 hw,L,fun q=>Bool.noConfusion (B.symm.trans q),fun _ _ _ z=>by simp at z⟩ (fun _ z=>by simp at z) (fun x r G=>⟨_,J1.2 rfl,rfl,S x r,G⟩)
   (fun x r G i o' I F=>?_) (fun B q y=>.inl (Zax W B q y)) (fun x j C z=>by cases z) (k.out fun q y x r=>?_)
  .rcases Zq6 hB I F with z|z|z
   .exact .inl z
   .exact .inr (.inl z)
   have⟨V'',q1,q2⟩:=hi i z;exact .inr (.inr (.inl ⟨V'',q1,q2 x (S x r)⟩))
  rcases K2.1 y with z|z
  .subst z;exact G3 r.2 t
  exact G3 (P q z x r) t
 refine WE.cons (T:=fun _=>False) (xs0:=[]) (h2:=h1) (v:=v) [] [(m,fun x=>T x/\x<h.size)] none ⟨fun z=>absurd z hw,fun _ z=>z.elim,L,fun q=>Bool.noConfusion (B.symm.trans q),fun _ z=>z.elim⟩ (fun _ z=>by simp at z) (fun x r G=>r.elim)
  (fun x r=>r.elim) (fun B q y=>.inl (Zax W B q y)) (fun x j C z=>by cases z) (k.out fun q y x r=>?_)
 rcases K2.1 y with z|z
 .subst z;exact G3 r.2 t
 exact G3 (P q z x r) t
def WX.hv{d:Nat}{q:Op}{T:Nat->Prop}{K:N->H->Prop}(B:Yg ops ⟨some d,q,ty,p,af,g⟩ fr)(C:Nat.blt d n=true)(s:HV X V ⟨some d,q,ty,p,af,g⟩ fr h T K)
 (k:∀v t,K v t->WX X n V rd ops ⟨sf.s,(m,fun x=>T x/\x<h.size)::sf.m,sf.p⟩ (m+1) t l (Tr.set fr d v) Q) (A:YD ⟨some d,q,ty,p,af,g⟩=false) (D:okM ops sf m ⟨some d,q,ty,p,af,g⟩=true) (r:U Nat) (E:okB ops m r=true) (y:Y2 sf T r):
 WX X n V rd ops sf m h (⟨some d,q,ty,p,af,g⟩::l) fr Q:=
 let⟨v,_,h1,ha,hE,hT,hz,hk⟩:=s;ZBs B (fun F e=>by cases e;rwa[Gd]at C) (.inl ha) hE hT hz (k v h1 hk) A D r E y
def WX.hu{q:Op}{T:Nat->Prop}{K:H->Prop}(B:Yg ops ⟨none,q,ty,p,af,g⟩ fr)(s:HU X V ⟨none,q,ty,p,af,g⟩ fr h T K)
 (k:∀t,K t->WX X n V rd ops ⟨sf.s,(m,fun x=>T x/\x<h.size)::sf.m,sf.p⟩ (m+1) t l fr Q) (A:YD ⟨none,q,ty,p,af,g⟩=false) (C:okM ops sf m ⟨none,q,ty,p,af,g⟩=true) (r:U Nat) (D:okB ops m r=true) (y:Y2 sf T r):
 WX X n V rd ops sf m h (⟨none,q,ty,p,af,g⟩::l) fr Q:=
 let⟨_,h1,ha,hE,hT,hz,hk⟩:=s;ZBs (v:=undef) B (fun E e=>by cases e) (.inr ⟨ha,rfl⟩) hE hT hz (k h1 hk) A C r D y
def ZpL(h:H){A:Xv}(l:A.own=true):Eff.apply V h (.new A)=some (h.push A):=by show(bif A.own then some (h.push A) else none)=_;rw[l];rfl
def HN(X:Ctx)(V:Nat)(o:Oper)(fr:Fr)(h:H)(K:N->H->Prop):Prop:=∃v A,A.own=true/\(∀g:H,g.size=h.size->XM X g (YI fr) o=some (.val v,.new A))/\∀l,Up V (fun _=>False) h l->l.at h.size=A->l.size=h.size+1->K v l
def WO.hn{Q:XX->Fs->Prop}{d:Nat}{q:Op}{K:N->H->Prop}(t:Yg ops ⟨some d,q,ty,p,af,g⟩ fr)(x:Nat.blt d n=true)(s:HN X V ⟨some d,q,ty,p,af,g⟩ fr h K)(k:∀v r,K v r->WO X n V rd ops l ⟨Tr.set fr d v,ds,r,none⟩ Q):
 WO X n V rd ops (⟨some d,q,ty,p,af,g⟩::l) ⟨fr,ds,h,none⟩ Q:=let⟨v,A,hA,ha,hk⟩:=s;WO.v t x (ha h rfl) (ZpL h hA) (k v _ (hk _ (Up.push V h A) (Jm h A) (by simp)))
def Vf{Q:XX->Fs->Prop}{d:Nat}{q:Op}{K:Value->H->Prop}(s:HN X V ⟨some d,q,ty,p,af,none⟩ fr h K)(k:∀v r,K v r->WO X n V rd ops l ⟨Tr.set fr d v,ds,r,none⟩ Q)(t:Nat.blt d n=true:=by exact rfl):WO X n V rd ops (⟨some d,q,ty,p,af,none⟩::l) ⟨fr,ds,h,none⟩ Q:=WO.hn gN t s k
def WX.hn{d:Nat}{E:Op}{K:N->H->Prop}(W:Yg ops ⟨some d,E,ty,p,af,g⟩ fr)(hd:Nat.blt d n=true)(s:HN X V ⟨some d,E,ty,p,af,g⟩ fr h K)(k:∀v L,K v L->WX X n V rd ops ⟨(m,fun x=>x≠h.size)::sf.s,sf.m,sf.p⟩ (m+1) L l (Tr.set fr d v) Q)(S:YD ⟨some d,E,ty,p,af,g⟩=false):
 WX X n V rd ops sf m h (⟨some d,E,ty,p,af,g⟩::l) fr Q:=by
 have⟨v,A,hA,ha,hk⟩:=s;have t:∀x,x∈XV h (fun _=>False)↔x<h.size:=fun x=>by rw[ZbS];simp
 have r:(QW (XV h fun _=>False) h ((mask (XV h fun _=>False) h).push A)).size=h.size+1:=by rw[Qv,H.size_push,Yf]
 have D:h.size<=((mask (XV h fun _=>False) h).push A).size:=by rw[H.size_push,Yf];omega
 have hu:Up V (fun _=>False) h (QW (XV h fun _=>False) h ((mask (XV h fun _=>False) h).push A)):=
  ⟨by rw[r];omega,fun i I _=>by rw[UK _ _ _ D,if_pos ⟨(t i).2 I,I⟩],fun _ e=>e.elim⟩
 have G:(QW (XV h fun _=>False) h ((mask (XV h fun _=>False) h).push A)).at h.size=A:=by
  rw[UK _ _ _ D,if_neg (fun q=>Nat.lt_irrefl _ q.2)];have:=Jm (mask (XV h fun _=>False) h) A;rwa[Yf]at this
 refine⟨fun F=>WE.cons (T:=fun _=>False) (xs0:=XV h fun _=>False) (v:=v) [(m,fun x=>x≠h.size)] [] none ?_ (fun q B=>?_) (fun _ z=>z.elim) (fun _ z=>z.elim) (fun _ q B=>.inr fun x y=>?_) (fun x j C z=>by cases z)
  ((k v _ (hk _ hu G r)).out fun q B x y=>by rw[r];exact Nat.lt_succ_of_lt (F q B x y))⟩
 .have:=ZcO (V:=V) (rd:=rd) W (.inl (ha _ (Yf _ _))) (h1:=(mask (XV h fun _=>False) h).push A) (ZpL _ hA);have P:(fun x:Nat=>Eff.tgt (Eff.new A)=some x)=fun _=>False:=by funext x;simp[Eff.tgt]
  rw[P]at this;exact⟨fun hw=>⟨_,rfl,this.1,this.2.1 (by rw[Yf];exact hw)⟩,fun _ z=>z.elim,fun d' e=>(by cases e;rwa[Gd]at hd),fun q=>Bool.noConfusion (S.symm.trans q),fun _ z=>z.elim⟩
 .rw[J1.1 B];refine⟨rfl,fun x y=>?_⟩;rcases Gq x h.size with z|z
  .exact .inl ⟨z,(t x).2 z⟩
  right;rw[r];have:x≠h.size:=y;omega
 exact .inl ⟨F q B x y,(t x).2 (F q B x y)⟩
end
section
variable{X:Ctx}{n V:Nat}{rd:O Nat}{ops:V5 Oper}{l:U Oper}{fr:Fr}{ds:U V7}{h h1 h2 h0:H}{ty:J}{p:String}{af:V5 Edge}{g:O (Nat×Z)}{m:Nat}{T:Nat->Prop}{G Gr Ga Gb:U (Ast V)}{d:Nat}{sf:ST}
def Zko{x:V0}{t:J}{v:N}{vs:U N}(q:Sp V T h0 G h)(A:YI fr x=some v)(hv:v.cells.toList=vs):
 HN X V ⟨some d,.box t x,ty,p,af,g⟩ fr h (fun v r=>∃b,h.size=b/\v=(Va b)/\Sp V T h0 (bx V b vs::G) r):=by
 subst hv;refine⟨(Va h.size),.row v.cells.toList true 0,rfl,fun B y=>?_,fun r u l _=>⟨h.size,rfl,rfl,q.new u ⟨l,q.hw⟩ fun i e=>Nat.le_of_eq e.symm⟩⟩;rw[ZIP,A];dsimp only;rw[<-y];rfl
def ZeV{t:J}{v:N}{vs:U N}(r:Sp V T h0 G h)(y:Y5 X.P t=some v)(hv:v.cells.toList=vs):
 HN X V ⟨some d,.alloc t,ty,p,af,g⟩ fr h (fun v x=>∃b,h.size=b/\v=(Va b)/\Sp V T h0 (bx V b vs::G) x):=by
 subst hv;refine⟨(Va h.size),.row v.cells.toList true 0,rfl,fun A l=>?_,fun x u q _=>⟨h.size,rfl,rfl,r.new u ⟨q,r.hw⟩ fun i e=>Nat.le_of_eq e.symm⟩⟩;rw[Zzj,y];dsimp only;rw[<-l];rfl
def WG{x y:V0}{t:J}{b o sz:Nat}{cs cs' vs:U N}{v:N}(r:Sp V T h0 G h)(pk:Pk G (bx V b cs) Gr)(B:YO X.P t=some sz)(l:YI fr x=some (.pointer (some ⟨b,o,none⟩)))(A:YI fr y=some v)
 (q:v.cells.toList=vs) (hn:Nat.beq vs.length sz=true) (C:Nat.ble (o+sz) cs.length=true) (D:vs.all Value.oneCell'=true) (hv:splice cs o vs=cs'):
 HU X V ⟨none,.store t x y,ty,p,af,g⟩ fr h (fun i=>i=b) (fun E=>Sp V T h0 (bx V b cs'::Gr) E):=by
 have⟨hr,hw⟩:=r.get pk;have⟨e1,e2⟩:=ZJc (d:=none) (ty:=ty) (p:=p) (af:=af) (g:=g) B l A hr hw q (Nb0 hn) (Nl0 C) D hv;refine⟨_,_,e1,e2,fun x l=>?_,by simp,?_⟩;.simpa[Eff.tgt,eq_comm]using l
 exact r.one pk (Up.put hw (by rw[hr];rfl)) (fun i e=>e) ⟨Yp (Y8 hr rfl) _,hw⟩ fun i e=>.inl e
def Zp5{x:V0}{t y:J}{a:O Addr}{l A:Nat}{k:Int}(hu:X.P.underlying t=some (.slice y))(q:YI fr x=some (.slice a l A))(r:(l:Int)=k):
 XM X h (YI fr) ⟨some d,.call {callee:=.builtin .len,args:=#[x],argTypes:=#[t]},ty,p,af,g⟩=some (.val (V9 k),.none):=by subst r;exact ZPp hu q
section
variable{α:Type}{e:U8 α}
def X0{t Q:J}{r:Nat}{B:V5 (Nat×V0)}{x:U (Nat×N)}{z:N}{D:U N}{xs:U α}(W:Sp V T h0 G h)
 (hu:X.P.underlying t=some (.slice Q)) (hs:YO X.P Q=some e.sz) (hz:Y5 X.P Q=some z) (E:z.cells.toList=D) (I:D.length=e.sz) (S:Nat.ble (r*e.sz) 10000=true) (hp:evp (YI fr) B.toList=some x)
 (ho:Zlk (fun i=>some (i*e.sz,e.sz)) (ZcK D r).length x=true) (A:U (e.Par×α)) (hv:Zr6 (fun i=>i*e.sz) (ZcK D r) x=A.flatMap fun q=>e.sh q.1 q.2) (hq:A.map (·.2)=xs) (hF:∀q∈A,e.F V h q.1 q.2) (l:Nat.beq r xs.length=true):
 HN X V ⟨some d,.buildSlice t r B,ty,p,af,g⟩ fr h (fun v h'=>∃b,h.size=b/\v=.slice (some ⟨b,0,none⟩) r (2*r)/\Sp V T h0 (ow V e (some ⟨b,0,none⟩) r (2*r) xs::G) h'):=by
 have l:=Nb0 l;subst l;have hm':=Nl0 S;refine⟨.slice (some ⟨h.size,0,none⟩) xs.length (2*xs.length),.row (A.flatMap fun q=>e.sh q.1 q.2) true e.sz,rfl,fun g' K=>?_,fun h' u L _=>⟨h.size,rfl,rfl,W.new u ⟨rfl,?_⟩ fun i ⟨o,e⟩=>by cases e;exact K1 _⟩⟩;.show(match evp (YI fr) B.toList with|some B=>vE (ZsU X.P g' t xs.length B)|none=>none)=_;rw[hp];dsimp only;unfold ZsU;rw[hu];dsimp only;rw[hs,hz];dsimp only;rw[E,I];have b1:Nat.ble 1 e.sz=true:=Nm0 e.pos;rw[b1,S,Nat.beq_refl];simp only[Bool.and_self,Cq1];rw[Zs2 (off:=fun i=>i*e.sz) (fun i p e=>by cases e;rfl) _ _ ho,hv,K];rfl
 have y:=Jg.ZGn (h:=h) (V:=V) A hF;rw[hq]at y;have hl2:=y.len
 have C:xs.length<=9223372036854775807:=by
  have:xs.length*1<=xs.length*e.sz:=Nat.mul_le_mul_left _ e.pos;omega
 refine Kg.mk' C W.hw L Vb ?_ (y.mono (u.fz Vc));have:2*xs.length / 2=xs.length:=Vb;rw[this];omega
def ZIU{P:V2}{ts:V5 J}{a:O Addr}{t c:Nat}{y v:N}{E:Eff}{x0:Nat}(l:Jy P h ts (.slice a t c) y=some (v,E))(r:E.tgt=some x0):Uh a x0:=by
 unfold Jy at l;cases B:Zag P ts with|none=>rw[B]at l;cases l|some q=>
   have⟨q1,sz,by_,q4⟩:=q;rw[B]at l;dsimp only at l;cases x:reads h y sz with|none=>rw[x]at l;cases l|some new=>
     rw[x]at l;dsimp only at l;cases C:Nat.ble (t+Ji y) (c / 2) with
     | true=>
       rw[C,Cq1]at l;cases p:Nat.beq (Ji y) 0 with|true=>rw[p,Cq1]at l;cases l;cases r|false=>
         rw[p,Cq0]at l;split at l
         .split at l
          .rw[Bool.cond_eq_ite]at l;split at l;.cases l;cases r;exact⟨_,rfl⟩
           cases l
          cases l
         cases l
     | false=>
       rw[C,Cq0]at l;cases A:(Nat.ble ((2*(t+Ji y)+1000)*by_) (2 ^ 47)&&new.all Value.oneCell') with|false=>rw[A,Cq0]at l;cases l|true=>
         rw[A,Cq1]at l;split at l
         .cases p:Nat.beq (c % 2) 0 with|true=>rw[p,Cq1]at l;cases l;cases r|false=>
            rw[p,Cq0]at l;split at l
            .split at l
             .rw[Bool.cond_eq_ite]at l;split at l;.cases l;cases r;exact⟨_,rfl⟩
              cases l
             cases l
            cases l
         cases l
def ZPt{ts:V5 J}{x y:V0}{a:O Addr}{r c:Nat}{v w:N}{E:Eff}{x0:Nat}(C:YI fr x=some (.slice a r c))(B:YI fr y=some w)(l:XM X h (YI fr) ⟨some d,.call {callee:=.builtin .append,args:=#[x,y],argTypes:=ts},ty,p,af,g⟩=some (.val v,E))(D:E.tgt=some x0):Uh a x0:=by have A:evs (YI fr) [x,y]=some [.slice a r c,w]:=Zb C (Zb B Zd);rw[U4]at l;have ZHa:evs (YI fr) (#[x,y]:V5 V0).toList=some [.slice a r c,w]:=A;rw[ZHa]at l;replace l:vE (Jy X.P h ts (.slice a r c) w)=some (.val v,E):=l;cases t:Jy X.P h ts (.slice a r c) w with|none=>rw[t]at l;cases l|some q=>rw[t]at l;have⟨v',E'⟩:=q;cases l;exact ZIU t D
def Uc{ts:V5 J}{x y:V0}{A:Nat}{a a2:O Addr}{F I c W:Nat}{xs ys l:U α}(D:Sp V T h0 G h)(pk:Pk G (ow V e a F c xs) Gr)(hi:Zd4 X.P ts e.sz A)(Q:YI fr x=some (.slice a F c))(L:YI fr y=some (.slice a2 I W))(sr:Src e V h a2 W ys)(hn:I=ys.length)(ha:app A xs ys=some l):
 HV X V ⟨some d,.call {callee:=.builtin .append,args:=#[x,y],argTypes:=ts},ty,p,af,g⟩ fr h (Uh a) (fun v t=>∃(r:O Addr) (c':Nat),v=.slice r l.length c'/\Sp V T h0 (ow V e r l.length c' l::Gr) t):=by
 obtain⟨h1,so⟩:=D.get pk;subst h1 hn
 refine ZPu (K:=HV X V ⟨some d,.call {callee:=.builtin .append,args:=#[x,y],argTypes:=ts},ty,p,af,g⟩ fr h (Uh a) (fun v t=>∃(r:O Addr) (c':Nat),v=.slice r l.length c'/\Sp V T h0 (ow V e r l.length c' l::Gr) t))
  (J':=fun v t=>Up V (Uh a) h t/\∃(r:O Addr) (c':Nat),v=.slice r l.length c'/\Sp V T h0 (ow V e r l.length c' l::Gr) t) V (fun v E h1 S e2 ⟨u,j⟩=>⟨v,E,h1,S,e2,fun x0 C=>?_,u.size,j⟩) hi Vc D.hw Q L so sr ha
  (fun r c' t u B hb=>⟨u,r,c',rfl,D.one pk u (fun i q=>q) ⟨rfl,B⟩ fun i q=>(hb i q).imp id fun z=>Nat.le_of_eq z.symm⟩)
 exact ZPt Q L S C
end
end
section
variable{X:Ctx}{n V:Nat}{rd:O Nat}{ops:V5 Oper}{l:U Oper}{fr:Fr}{ds:U V7}{h h1 h2 h0:H}{ty:J}{p:String}{af:V5 Edge}{g:O (Nat×Z)}{m:Nat}{T:Nat->Prop}{G Gr Ga Gb:U (Ast V)}{d:Nat}{sf:ST}
section
variable{P:V2}{t:J}{i x0:Nat}{k x:N}{E:Eff}
def ZEE(l:XZ P h t (.map (some i)) k x=some E)(q:E.tgt=some x0):x0=i:=by
 unfold XZ at l;split at l
 .rename_i p _;cases p;rw[Bool.cond_eq_ite]at l;split at l
  .split at l
   .split at l
    .rw[Bool.cond_eq_ite]at l;split at l;.cases l;cases q;rfl
     cases l
    cases l
   .cases l;cases q;rfl
   cases l
  cases l
 cases l
def ZIT{p:J}{f:Y->O Z}{s:Y}(l:aks P h t (.map (some i)) k=some (p,x0,f,s)):x0=i:=by
 unfold aks at l;split at l
 .rename_i q;cases q;split at l;.rw[Bool.cond_eq_ite]at l;split at l<;>cases l;rfl
  cases l
 cases l
def ZIR(l:XC P h t (.map (some i)) k x=some E)(p:E.tgt=some x0):x0=i:=by
 unfold XC at l;split at l;next r=>cases l;exact ZEE r p
 split at l;next q _=>cases l;cases p;exact ZIT q
 cases l
end
section
variable{κ ν:Type}[DecidableEq κ]{kt vt:J}{kv:κ->N}{vv:ν->N}{i:Nat}{ll:U (κ×ν)}
theorem Zbo{t:J}(kv:κ->N)(vv:ν->N)(q:Sp V T h0 G h):
 HN X V ⟨some d,.makeMap t none,ty,p,af,g⟩ fr h (fun v r=>∃b,h.size=b/\v=.map (some b)/\Sp V T h0 (mp V kv vv (some b) []::G) r):=
 ⟨.map (some h.size),.map [] 0,rfl,fun y x=>by rw[<-x];rfl,fun r u l _=>⟨h.size,rfl,rfl,q.new u ⟨⟨.inr ⟨h.size,[],0,rfl,l,rfl,by simp,by simp⟩⟩,fun i e=>by cases e;exact q.hw⟩ fun i e=>by cases e;exact K1 _⟩⟩
theorem Kn{t:J}{x y z:V0}{k:κ}{v:ν}(F:Sp V T h0 G h)(pk:Pk G (mp V kv vv (some i) ll) Gr)(K:Zd2 X.P kt kv)(hu:X.P.underlying t=some (.map kt vt))(D:YI fr x=some (.map (some i)))(C:YI fr y=some (kv k))(B:YI fr z=some (vv v)):
 HU X V ⟨none,.mapUpdate t x y z,ty,p,af,g⟩ fr h (fun j=>j=i) (fun A=>Sp V T h0 (mp V kv vv (some i) (Yu ll k v)::Gr) A):=by
 have⟨A,⟨E,ha,hE,_⟩,u,ho⟩:=ZLg (d:=none) (ty:=ty) (p:=p) (af:=af) (g:=g) K hu (K1 V) D rfl C B (F.get pk);refine⟨E,A,ha,hE,fun I q=>?_,u.size,F.one pk u (fun j e=>e) ho fun j e=>.inl e⟩;have l:(match YI fr x,YI fr y,YI fr z with|some m,some k,some x=>sE (XC X.P h t m k x) | _,_,_=>none)=some (.skip,E):=ha;rw[D,C,B]at l;dsimp only at l;cases r:XC X.P h t (.map (some i)) (kv k) (vv v) with|none=>rw[r]at l;cases l|some L=>rw[r]at l;cases l;exact ZIR r q
end
end
section
variable{X:Ctx}{n V:Nat}{rd:O Nat}{ops:V5 Oper}{l:U Oper}{fr:Fr}{ds:U V7}{h h1 h2 h0:H}{ty:J}{p:String}{af:V5 Edge}{g:O (Nat×Z)}{m:Nat}{T:Nat->Prop}{G Gr Ga Gb:U (Ast V)}{d:Nat}{sf:ST}
def CP{V:Nat}(K:N->U (Ast V)->Prop)(Ga:U (Ast V))(h:H):N->H->Prop:=fun v l=>∃Gb,K v Gb/\Sp V (QA Ga) h Gb l
def ZX(X:Ctx)(fr:Fr)(o:Oper)(f:V3)(args:V5 N):Prop:=∀h:H,XM X h (YI fr) o=some (.enter f args,.none)
def ZX.fn{f:V3}{xs:V5 V0}{ts:V5 J}{vs:U N}{d:O Tmp}(l:(X.fns.get f).isSome=true)(q:evs (YI fr) xs.toList=some vs):ZX X fr ⟨d,.call {callee:=.value (.func f),args:=xs,argTypes:=ts},ty,p,af,g⟩ f vs.toArray:=fun h=>by
 have⟨fn,l⟩:=GJ.1 l;rw[ZeA,q];dsimp only;rw[Zs3];dsimp only;exact ZEK l
def ZX.clo{f:V3}{q:V0}{xs:V5 V0}{ts:V5 J}{vs first cap args:U N}{d:O Tmp}(t:YI fr q=some (.func (.func f) first.toArray cap.toArray))(l:(X.fns.get f).isSome=true)(r:evs (YI fr) xs.toList=some vs)(x:first++vs++cap=args):
 ZX X fr ⟨d,.call {callee:=.value q,args:=xs,argTypes:=ts},ty,p,af,g⟩ f args.toArray:=fun h=>by
 have⟨fn,l⟩:=GJ.1 l;subst x;rw[ZeA,r];dsimp only;rw[t];dsimp only;unfold U5;dsimp only;rw[l]
def WO.en{Q:XX->Fs->Prop}{q:Op}{f:V3}{args:V5 N}{v:N}{h2:H}(r:Yg ops ⟨some d,q,ty,p,af,g⟩ fr)(t:Nat.blt d n=true)(he:ZX X fr ⟨some d,q,ty,p,af,g⟩ f args)
 (x:Y7 X (.call f args V h) (.fin (.ret v) h2)) (k:WO X n V rd ops l ⟨Tr.set fr d v,ds,h2,none⟩ Q):WO X n V rd ops (⟨some d,q,ty,p,af,g⟩::l) ⟨fr,ds,h,none⟩ Q:=
 WO.call r t (he h) rfl x k
def WO.cl{Q:XX->Fs->Prop}{t:Op}{f:V3}{args:V5 N}{K:N->U (Ast V)->Prop}(C:Yg ops ⟨some d,t,ty,p,af,g⟩ fr)(D:Nat.blt d n=true)(he:ZX X fr ⟨some d,t,ty,p,af,g⟩ f args)(x:Sp V T h0 G h)(pk:Sel G Ga Gr)
 (E:∀q:H,q.size=h.size->Fz V h q->ZV Ga q->WR X f args V q (CP K Ga q)) (k:∀v r Gb,K v Gb->Sp V T h0 (Gb++Gr) r->WO X n V rd ops l ⟨Tr.set fr d v,ds,r,none⟩ Q):
 WO X n V rd ops (⟨some d,t,ty,p,af,g⟩::l) ⟨fr,ds,h,none⟩ Q:=by
 obtain⟨e,r,⟨v,rfl,Gb,A,y⟩,B⟩:=E h rfl (Fz.refl _ _) (x.Zac pk);exact WO.en C D he B (k v r Gb A (x.call pk y))
def Ve{Q:XX->Fs->Prop}{r:Op}{f:FuncId}{args:Array Value}{K:Value->List (Ast V)->Prop}(he:ZX X fr ⟨some d,r,ty,p,af,none⟩ f args)(A:Sp V T h0 G h)(pk:Sel G Ga Gr)
 (y:∀q:H,q.size=h.size->Fz V h q->ZV Ga q->WR X f args V q (CP K Ga q)) (k:∀v t Gb,K v Gb->Sp V T h0 (Gb++Gr) t->WO X n V rd ops l ⟨Tr.set fr d v,ds,t,none⟩ Q) (x:Nat.blt d n=true:=by exact rfl):WO X n V rd ops (⟨some d,r,ty,p,af,none⟩::l) ⟨fr,ds,h,none⟩ Q:=WO.cl gN x he A pk y k
def Ua.mono{P:V2}{o:Oper}{M p:Nat->Prop}{v:N}(y:∀i,i<h.size->M i->p i)(s:Ua P V rd ops o M fr h v h2):Ua P V rd ops o p fr h v h2:=fun ρ a w F K Q r C x B A=>
 s ρ a w F K Q r C x B fun l v' w' hv t q=>A l v' w' hv t (q.weaken y r.lt)
def Sp.ZRu(r:ZV Ga h)(c:Sp V (QA Ga) h Gb h2):KI (QA Ga) h h2:=by
 refine⟨c.size,c.keep,fun i q p=>?_,fun i q p=>?_⟩
 .by_cases l:QA Ga i;.exact(r.own l).2
  rwa[c.keep i q l]at p
 by_cases l:QA Ga i;.exact Un (r.own l).2
 rwa[c.keep i q l]at p
open Classical in
def J5 (V:Nat) (h:H) (R:Nat ->Prop):List Nat:= (List.range h.size).filter fun x=>decide (V <=x∧(h.at x).own=true∧¬ R x)
def UF{R:Nat->Prop}{x:Nat}:x∈J5 V h R↔x<h.size/\V<=x/\(h.at x).own=true/\¬ R x:=by unfold J5;simp
def WX.clC{Q:Fr->H->Prop}(to:U (Nat×(Nat->Prop))){I:Op}{f:V3}{args:V5 N}{K:N->U (Ast V)->Prop}(hg:Yg ops ⟨some d,I,ty,p,af,g⟩ fr)(hd:Nat.blt d n=true)(he:ZX X fr ⟨some d,I,ty,p,af,g⟩ f args)(hS:Sp V T h0 G h)(pk:Sel G Ga Gr)
 (hc:∀g':H,g'.size=h.size->Fz V h g'->ZV Ga g'->WR X f args V g' (CP K Ga g')) (k:∀v h' Gb,K v Gb->Sp V T h0 (Gb++Gr) h'->WX X n V rd ops ⟨sf.s,to++sf.m,sf.p⟩ (m+1) h' l (Tr.set fr d v) Q)
 (hh:YD ⟨some d,I,ty,p,af,g⟩=false) (hto:∀x,QA Ga x->x<h.size->∃q∈to,q.1=m/\q.2 x) (htb:∀q∈to,∀x,q.2 x->x<h.size) (hM:okM ops sf m ⟨some d,I,ty,p,af,g⟩=true) (hB:∀x,QA Ga x->∀i o',i<m->ops.toList[i]? =some o'->Cmp ops i m\/YD o'=true\/∃V'',(i,V'')∈sf.s/\V'' x):
 WX X n V rd ops sf m h (⟨some d,I,ty,p,af,g⟩::l) fr Q:=by
 have ha:=hS.Zac pk;have hw:=hS.hw;have y:∀x,x∉J5 V h (QA Ga)->(mask (J5 V h (QA Ga)) h).at x=h.at x:=fun x r=>by rw[Q8,if_neg r]
 have P:∀x,QA Ga x->x∉J5 V h (QA Ga):=fun x r q=>(UF.1 q).2.2.2 r
 have F:Fz V h (mask (J5 V h (QA Ga)) h):=by
  refine⟨by rw[Yf];exact K1 _,fun i cs own z e s=>?_,fun i h1 h2=>?_⟩
  .rw[y i fun q=>?_,e];have q:=UF.1 q;rcases s with s|s
   .omega
   rw[e]at q;subst s;exact Bool.noConfusion q.2.2.1
  exact y i fun q=>by have:=(UF.1 q).2.1;omega
 have hha:ZV Ga (mask (J5 V h (QA Ga)) h):=⟨fun A hA=>A.loc F (fun i f=>y i (P i ⟨A,hA,f⟩)) (ha.all A hA),ha.dis⟩;obtain⟨e,B,⟨v,rfl,Gb,hk,D⟩,hj⟩:=hc _ (Yf _ _) F hha;have E:h.size<=B.size:=by have:=D.size;rwa[Yf]at this
 have L:=UK (J5 V h (QA Ga)) h B E;have t:∀x,x∉J5 V h (QA Ga)->(QW (J5 V h (QA Ga)) h B).at x=B.at x:=fun x r=>by rw[L,if_neg (fun q=>r q.1)]
 have hin:∀x,x∈J5 V h (QA Ga)->B.at x=.dead:=fun x r=>by
  have q:=UF.1 r;rw[D.keep x (by rw[Yf];exact q.1) q.2.2.2,Q8,if_pos r]
 have hf2:Fz V B (QW (J5 V h (QA Ga)) h B):=by
  refine⟨by rw[Qv];exact K1 _,fun i cs own z e _=>?_,fun i h1 _=>t i fun q=>by have:=(UF.1 q).2.1;omega⟩;rw[t i fun q=>?_,e];rw[hin i q]at e;cases e
 have hsp:Sp V (QA Ga) h Gb (QW (J5 V h (QA Ga)) h B):=by
  refine⟨hw,(F.trans D.fz).trans hf2,fun i W hn=>?_,⟨fun A hA=>A.loc hf2 (fun i f=>t i fun q=>?_) (D.hold.all A hA),D.hold.dis⟩,fun i f=>by have:=D.inn i f;rwa[Yf]at this⟩
  .by_cases r:i∈J5 V h (QA Ga);.rw[L,if_pos ⟨r,W⟩]
   rw[t i r,D.keep i (by rw[Yf];exact W) hn,y i r]
  have q':=UF.1 q;rcases D.inn i ⟨A,hA,f⟩ with z|z
  .exact q'.2.2.2 z
  rw[Yf]at z;omega
 have hown:∀x,QA Ga x->x<h.size:=fun x r=>ZtU (ha.own r).2
 refine⟨fun hb=>WE.cons (T:=QA Ga) (xs0:=J5 V h (QA Ga)) (v:=v) (h2:=QW (J5 V h (QA Ga)) h B) [] to none ?_ (fun _ z=>by simp at z) hto
  (fun x r hl i o' hi' ho'=>?_) (fun hh q hq=>.inl (Zax hM hh q hq)) (fun x j C z=>by cases z) ((k v _ Gb hk (hS.call pk hsp)).out fun q hq x r=>?_)⟩
 .refine⟨fun _=>⟨B,rfl,(Zn8 hg (he _) (by rw[Yf];exact hw) hj).mono fun i W S=>?_,D.ZRu hha⟩,fun x r=>(ha.own r).1,fun d' e=>by cases e;rwa[Gd]at hd,fun q=>Bool.noConfusion (hh.symm.trans q),fun x r _=>P x r⟩;rw[Yf]at W;by_cases ht:QA Ga i;.exact ht
  exfalso;by_cases r:i∈J5 V h (QA Ga);.rw[Q8,if_pos r]at S;cases S.2
  rw[y i r]at S;exact r (UF.2 ⟨W,S.1,S.2,ht⟩)
 .exact(hB x r i o' hi' ho').imp (fun z=>z) fun z=>z.imp (fun z=>z) .inl
 rw[Qv];rcases Q3.1 hq with z|z
 .exact G3 (htb q z x r) E
 exact G3 (hb q z x r) E
def WX.cl{Q:Fr->H->Prop}{t:Op}{f:V3}{args:V5 N}{K:N->U (Ast V)->Prop}(P:Yg ops ⟨some d,t,ty,p,af,g⟩ fr)(S:Nat.blt d n=true)(he:ZX X fr ⟨some d,t,ty,p,af,g⟩ f args)(hS:Sp V T h0 G h)(pk:Sel G Ga Gr)
 (W:∀y:H,y.size=h.size->Fz V h y->ZV Ga y->WR X f args V y (CP K Ga y)) (k:∀v D Gb,K v Gb->Sp V T h0 (Gb++Gr) D->WX X n V rd ops ⟨sf.s,(m,fun x=>QA Ga x/\x<h.size)::sf.m,sf.p⟩ (m+1) D l (Tr.set fr d v) Q)
 (L:YD ⟨some d,t,ty,p,af,g⟩=false) (hM:okM ops sf m ⟨some d,t,ty,p,af,g⟩=true) (C:U Nat) (hB:okB ops m C=true) (I:Y2 sf (QA Ga) C):
 WX X n V rd ops sf m h (⟨some d,t,ty,p,af,g⟩::l) fr Q:=
 WX.clC [(m,fun x=>QA Ga x/\x<h.size)] P S he hS pk W k L (fun x r F=>⟨_,J1.2 rfl,rfl,r,F⟩) (fun q E x r=>by rw[J1.1 E]at r;exact r.2) hM fun x r i o' B A=>(Zq6 hB B A).imp (fun z=>z) fun z=>z.imp (fun z=>z) fun z=>let⟨V'',q1,q2⟩:=I i z;⟨V'',q1,q2 x r⟩
def WX.cl0{Q:Fr->H->Prop}{r:Op}{f:V3}{args:V5 N}{K:N->U (Ast V)->Prop}(D:Yg ops ⟨some d,r,ty,p,af,g⟩ fr)(E:Nat.blt d n=true)(he:ZX X fr ⟨some d,r,ty,p,af,g⟩ f args)(I:Sp V T h0 G h)(pk:Sel G [] Gr)
 (F:∀t:H,t.size=h.size->Fz V h t->ZV ([]:U (Ast V)) t->WR X f args V t (CP K [] t)) (k:∀v y Gb,K v Gb->Sp V T h0 (Gb++Gr) y->WX X n V rd ops sf (m+1) y l (Tr.set fr d v) Q)
 (C:YD ⟨some d,r,ty,p,af,g⟩=false) (L:okM ops sf m ⟨some d,r,ty,p,af,g⟩=true):
 WX X n V rd ops sf m h (⟨some d,r,ty,p,af,g⟩::l) fr Q:=
 WX.clC [] D E he I pk F k C (fun x ⟨A,q,_⟩=>by simp at q) (fun q B=>by simp at B) L fun x ⟨A,q,_⟩=>by simp at q
structure Cv{V wm':Nat}(A:Ast wm')(B:Ast V):Prop where
 imp:∀h,A.P h->B.P h
 fp:∀i,B.fp i->A.fp i
inductive Cvs{V wm':Nat}:List (Ast wm')->List (Ast V)->Prop
 | n:Cvs [] []
 | c {A:Ast wm'} {B:Ast V} {G':List (Ast wm')} {G:List (Ast V)}:Cv A B->Cvs G' G->Cvs (A::G') (B::G)
def Cvs.hold{V q:Nat}{p:U (Ast q)}{G:U (Ast V)}(c:Cvs p G)(s:ZV p h):ZV G h/\∀i,QA G i->QA p i:=by
 induction c with
 | n=>exact⟨ZV.nil,fun i ⟨A,m,_⟩=>by simp at m⟩
 | @c A B p G cv _ ih=>
   have r:ZV p h:=ZV.right (Ga:=[A]) s;have⟨i1,i2⟩:=ih r;have t:=GV.1 s.dis;refine⟨⟨fun C l=>?_,GV.2 ⟨fun C l i y x=>?_,i1.dis⟩⟩,fun i ⟨C,l,f⟩=>?_⟩
   .rcases K2.1 l with z|z
    .rw[z];exact cv.imp h (s.all A (by simp))
    exact i1.all C z
   .have⟨D,q1,q2⟩:=i2 i ⟨C,l,x⟩;exact t.1 D q1 i (cv.fp i y) q2
   rcases K2.1 l with z|z
   .rw[z]at f;exact⟨A,by simp,cv.fp i f⟩
   have⟨D,q1,q2⟩:=i2 i ⟨C,z,f⟩;exact⟨D,by simp[q1],q2⟩
def Sp.clR{l:U (Ast h.size)}(s:Sp V T h0 G h)(c:Sp h.size (QA ([]:U (Ast h.size))) h l h2)(cv:Cvs l Gb):Sp V T h0 (Gb++G) h2:=by
 have⟨i1,i2⟩:=cv.hold c.hold;refine Sp.step (Ga:=[]) (t:=fun _=>False) s ⟨c.size,fun i p _=>c.keep i p fun⟨A,q,_⟩=>by simp at q,fun _ z=>z.elim⟩ (fun _ z=>z.elim) i1 fun i f=>?_;rcases c.inn i (i2 i f) with⟨A,q,_⟩|z
 .simp at q
 exact .inr z
def cvM{p l:Type}{kv:p->N}{vv:l->N}{h:Nat}{q:O Nat}{ll:U (p×l)}(hw:V<=h):Cv (mp h kv vv q ll) (mp V kv vv q ll):=⟨fun _ s=>s.lower hw,fun _ e=>e⟩
def WX.ZKB{Q:Fr->H->Prop}{t:Op}{f:V3}{args:V5 N}{v:N}(G:Yg ops ⟨some d,t,ty,p,af,g⟩ fr)(I:Nat.blt d n=true)(he:ZX X fr ⟨some d,t,ty,p,af,g⟩ f args)(y:Grow h h2)(F:Y7 X (.call f args h.size h) (.fin (.ret v) h2))
 (k:WX X n V rd ops sf (m+1) h2 l (Tr.set fr d v) Q) (B:YD ⟨some d,t,ty,p,af,g⟩=false) (L:okM ops sf m ⟨some d,t,ty,p,af,g⟩=true):WX X n V rd ops sf m h (⟨some d,t,ty,p,af,g⟩::l) fr Q:=by
 refine⟨fun K=>WE.cons (T:=fun _=>False) (xs0:=[]) (v:=v) (h2:=h2) [] [] none ?_ (fun _ z=>by simp at z) (fun _ z=>z.elim) (fun _ z=>z.elim) (fun B q A=>.inl (Zax L B q A)) (fun x j C z=>by cases z) (k.out fun q A x D=>G3 (K q A x D) y.size)⟩;refine⟨fun _=>⟨h2,rfl,(Zn8 G (he h) Vc F).mono fun i r E=>absurd E.1 (Nat.not_le_of_lt r),y.size,fun i r _=>y.keep i r,fun i r q=>by rwa[y.keep i r]at q,fun i r q=>by rwa[y.keep i r]at q⟩,fun _ z=>z.elim,fun P e=>by cases e;rwa[Gd]at I,fun q=>Bool.noConfusion (B.symm.trans q),fun _ z=>z.elim⟩
def WX.clR{Q:Fr->H->Prop}{r:Op}{f:V3}{args:V5 N}{K:N->U (Ast h.size)->Prop}(F:Yg ops ⟨some d,r,ty,p,af,g⟩ fr)(G:Nat.blt d n=true)(he:ZX X fr ⟨some d,r,ty,p,af,g⟩ f args)(_:V<=h.size)
 (I:WR X f args h.size h (CP K [] h)) (k:∀v t y,K v y->Sp h.size (QA ([]:U (Ast h.size))) h y t->WX X n V rd ops sf (m+1) t l (Tr.set fr d v) Q) (E:YD ⟨some d,r,ty,p,af,g⟩=false) (L:okM ops sf m ⟨some d,r,ty,p,af,g⟩=true):
 WX X n V rd ops sf m h (⟨some d,r,ty,p,af,g⟩::l) fr Q:=by
 obtain⟨e,t,⟨v,rfl,Gb,B,x⟩,C⟩:=I;exact WX.ZKB F G he ⟨x.size,fun i D=>x.keep i D fun⟨A,q,_⟩=>by simp at q⟩ C (k v t Gb B x) E L
def WO.cp{Q:XX->Fs->Prop}{q:Op}{f:V3}{args:V5 N}{v:N}(t:Yg ops ⟨some d,q,ty,p,af,g⟩ fr)(x:Nat.blt d n=true)(he:ZX X fr ⟨some d,q,ty,p,af,g⟩ f args)(r:Pure X f args h v)(k:WO X n V rd ops l ⟨Tr.set fr d v,ds,h,none⟩ Q):
 WO X n V rd ops (⟨some d,q,ty,p,af,g⟩::l) ⟨fr,ds,h,none⟩ Q:=WO.en t x he (r V) k
def WX.cp{Q:Fr->H->Prop}{q:Op}{f:V3}{args:V5 N}{v:N}(x:Yg ops ⟨some d,q,ty,p,af,g⟩ fr)(y:Nat.blt d n=true)(he:ZX X fr ⟨some d,q,ty,p,af,g⟩ f args)(r:Pure X f args h v)
 (k:WX X n V rd ops sf (m+1) h l (Tr.set fr d v) Q) (t:YD ⟨some d,q,ty,p,af,g⟩=false) (A:okM ops sf m ⟨some d,q,ty,p,af,g⟩=true):WX X n V rd ops sf m h (⟨some d,q,ty,p,af,g⟩::l) fr Q:=WX.ZKB x y he (Grow.refl h) (r _) k t A
def WO.gcp{Q:XX->Fs->Prop}{q:Op}{f:V3}{args:V5 N}{v:N}{c:Z}(r:Ze ops ⟨some d,q,ty,p,af,g⟩ fr c)(t:Nat.blt d n=true)(he:c=true->ZX X fr ⟨some d,q,ty,p,af,g⟩ f args)(x:c=true->Pure X f args h v)(k:WO X n V rd ops l ⟨Tr.set fr d (cond c v undef),ds,h,none⟩ Q):
 WO X n V rd ops (⟨some d,q,ty,p,af,g⟩::l) ⟨fr,ds,h,none⟩ Q:=by
 cases c;.exact WO.Xm r rfl t k
 exact WO.cp r t (he rfl) (x rfl) k
def WX.gcp{Q:Fr->H->Prop}{q:Op}{f:V3}{args:V5 N}{v:N}{c:Z}(r:Ze ops ⟨some d,q,ty,p,af,g⟩ fr c)(t:Nat.blt d n=true)(he:c=true->ZX X fr ⟨some d,q,ty,p,af,g⟩ f args)(y:c=true->Pure X f args h v)
 (k:WX X n V rd ops sf (m+1) h l (Tr.set fr d (cond c v undef)) Q) (A:YD ⟨some d,q,ty,p,af,g⟩=false) (x:okM ops sf m ⟨some d,q,ty,p,af,g⟩=true):WX X n V rd ops sf m h (⟨some d,q,ty,p,af,g⟩::l) fr Q:=by
 cases c;.exact WX.off r t k x
 exact WX.cp r t (he rfl) (y rfl) k A x
def WO.inl{Q:XX->Fs->Prop}{q:Op}{f:V3}{args:V5 N}(y:Yg ops ⟨some d,q,ty,p,af,g⟩ fr)(A:Nat.blt d n=true)(he:ZX X fr ⟨some d,q,ty,p,af,g⟩ f args)
 (k:WR X f args V h (fun v r=>WO X n V rd ops l ⟨Tr.set fr d v,ds,r,none⟩ Q)):WO X n V rd ops (⟨some d,q,ty,p,af,g⟩::l) ⟨fr,ds,h,none⟩ Q:=by
 obtain⟨e,r,⟨v,rfl,t⟩,x⟩:=k;exact WO.en y A he x t
def ZKr{l:Type}{e:U8 l}{a:O Addr}{p c:Nat}{xs:U l}{h':H}(r:Sp V T h0 G h)(pk:Pk G (ow V e a p c xs) Gr)(u:Up V (Uh a) h h')(s:Sl e V h' a c xs):p=xs.length/\Sp V T h0 (Z9 V (Yh e) (a,c) xs::Gr) h':=
 ⟨(r.get pk).1,r.one pk u (fun _ q=>q) s fun _ z=>z.elim⟩
def WO.fzn{Q:XX->Fs->Prop}{q:Type}{e:U8 q}{a:O Addr}{r c:Nat}{xs:U q}(t:Sp V T h0 G h)(pk:Pk G (ow V e a r c xs) Gr)(k:∀p,r=xs.length/\Sp V T h0 (Z9 V (Yh e) (a,c) xs::Gr) p->WO X n V rd ops l ⟨fr,ds,p,none⟩ Q):WO X n V rd ops l ⟨fr,ds,h,none⟩ Q:=
 WO.freeze (K1 V) (t.get pk).2 fun p u s=>k p (ZKr t pk u s)
def WC.fzn{Q:XX->Fs->Prop}{t:Code}{p:Type}{e:U8 p}{a:O Addr}{q c:Nat}{xs:U p}(r:Sp V T h0 G h)(pk:Pk G (ow V e a q c xs) Gr)(k:∀l,q=xs.length/\Sp V T h0 (Z9 V (Yh e) (a,c) xs::Gr) l->WC X n V rd t ⟨fr,ds,l,none⟩ Q):WC X n V rd t ⟨fr,ds,h,none⟩ Q:=
 WC.freeze (K1 V) (r.get pk).2 fun l u s=>k l (ZKr r pk u s)
def Sp.Qw{l:Type}{e:U8 l}{a:O Addr}{c:Nat}{xs:U l}(s:Sp V T h0 G h)(pk:Pk G (Z9 V (Yh e) (a,c) xs) Gr):Sl e V h a c xs:=s.get pk
end
section
def k0{h:Type}{A:h}{G:U h}:Pk (A::G) A G:=.z
def k1{h:Type}{A b:h}{G:U h}:Pk (b::A::G) A (b::G):=.s k0
def k2{h:Type}{A b c:h}{G:U h}:Pk (b::c::A::G) A (b::c::G):=.s k1
def k3{h:Type}{A b c d:h}{G:U h}:Pk (b::c::d::A::G) A (b::c::d::G):=.s k2
def k4{h:Type}{A b c d e:h}{G:U h}:Pk (b::c::d::e::A::G) A (b::c::d::e::G):=.s k3
def k5{h:Type}{A b c d e f:h}{G:U h}:Pk (b::c::d::e::f::A::G) A (b::c::d::e::f::G):=.s k4
def k6{h:Type}{A b c d e f g:h}{G:U h}:Pk (b::c::d::e::f::g::A::G) A (b::c::d::e::f::g::G):=.s k5
def k7{l:Type}{A b c d e f g h:l}{G:U l}:Pk (b::c::d::e::f::g::h::A::G) A (b::c::d::e::f::g::h::G):=.s k6
def Sel.a{l:Type}{A:l}{G Ga Gr:U l}(h:Sel G Ga Gr):Sel (A::G) (A::Ga) Gr:=Sel.c k0 h
def Sel.b{l:Type}{A x:l}{G Ga Gr:U l}(h:Sel (x::G) Ga Gr):Sel (x::A::G) (A::Ga) Gr:=Sel.c k1 h
def Sel.d{l:Type}{A x y:l}{G Ga Gr:U l}(h:Sel (x::y::G) Ga Gr):Sel (x::y::A::G) (A::Ga) Gr:=Sel.c k2 h
def Sel.e{l:Type}{A x y z:l}{G Ga Gr:U l}(h:Sel (x::y::z::G) Ga Gr):Sel (x::y::z::A::G) (A::Ga) Gr:=Sel.c k3 h
def Sel.f{l:Type}{A x y z u:l}{G Ga Gr:U l}(h:Sel (x::y::z::u::G) Ga Gr):Sel (x::y::z::u::A::G) (A::Ga) Gr:=Sel.c k4 h
def Sel.g{l:Type}{A x y z u v:l}{G Ga Gr:U l}(h:Sel (x::y::z::u::v::G) Ga Gr):Sel (x::y::z::u::v::A::G) (A::Ga) Gr:=Sel.c k5 h
def Sel.i{l:Type}{A x y z u v w:l}{G Ga Gr:U l}(h:Sel (x::y::z::u::v::w::G) Ga Gr):Sel (x::y::z::u::v::w::A::G) (A::Ga) Gr:=Sel.c k6 h
def Sel.j{l:Type}{A x y z u v w t:l}{G Ga Gr:U l}(h:Sel (x::y::z::u::v::w::t::G) Ga Gr):Sel (x::y::z::u::v::w::t::A::G) (A::Ga) Gr:=Sel.c k7 h
def k8{l:Type}{A b c d e f g h i:l}{G:U l}:Pk (b::c::d::e::f::g::h::i::A::G) A (b::c::d::e::f::g::h::i::G):=.s k7
def k9{l:Type}{A b c d e f g h i j:l}{G:U l}:Pk (b::c::d::e::f::g::h::i::j::A::G) A (b::c::d::e::f::g::h::i::j::G):=.s k8
def k10{l:Type}{A b c d e f g h i j k:l}{G:U l}:Pk (b::c::d::e::f::g::h::i::j::k::A::G) A (b::c::d::e::f::g::h::i::j::k::G):=.s k9
def k11{p:Type}{A b c d e f g h i j k l:p}{G:U p}:Pk (b::c::d::e::f::g::h::i::j::k::l::A::G) A (b::c::d::e::f::g::h::i::j::k::l::G):=.s k10
def k12{p:Type}{A b c d e f g h i j k l m:p}{G:U p}:Pk (b::c::d::e::f::g::h::i::j::k::l::m::A::G) A (b::c::d::e::f::g::h::i::j::k::l::m::G):=.s k11
def k13{p:Type}{A b c d e f g h i j k l m n:p}{G:U p}:Pk (b::c::d::e::f::g::h::i::j::k::l::m::n::A::G) A (b::c::d::e::f::g::h::i::j::k::l::m::n::G):=.s k12
def k14{p:Type}{A b c d e f g h i j k l m n o:p}{G:U p}:Pk (b::c::d::e::f::g::h::i::j::k::l::m::n::o::A::G) A (b::c::d::e::f::g::h::i::j::k::l::m::n::o::G):=.s k13
def k15{q:Type}{A b c d e f g h i j k l m n o p:q}{G:U q}:Pk (b::c::d::e::f::g::h::i::j::k::l::m::n::o::p::A::G) A (b::c::d::e::f::g::h::i::j::k::l::m::n::o::p::G):=.s k14
def At.eqv{h l:H}{b o:Nat}{vs:U N}(e:l.at b=h.at b)(a:At h b o vs):At l b o vs:=by have⟨cs,own,z,h1,h2⟩:=a;exact⟨cs,own,z,by rw[e,h1],h2⟩
section
variable{V:Nat}{G Ga Gr:U (Ast V)}{h h0:H}{T:Nat->Prop}{A B:Ast V}
def Sp.nil{l:Type}(s:Sp V T h0 G h){e:U8 l}:Sp V T h0 (ow V e none 0 0 ([]:U l)::G) h:=s.add ⟨rfl,Kg.nil⟩ fun i=>Uh.none
def Sp.dj(s:Sp V T h0 G h)(p:Sel G [A,B] Gr):∀x,A.fp x->¬ B.fp x:=fun x a b=>by
 have:=(s.Zac p).dis;exact(GV.1 this).1 B (by simp) x a b
def Sp.Kv{l:Type}{e:U8 l}{a:O Addr}{c:Nat}{xs:U l}(s:Sp V T h0 G h)(p:Pk G (Z9 V (Yh e) (a,c) xs) Gr):Sl e h.size h a c xs:=(s.Qw p).up s.hw
def Sp.ms{q p:Type}{kv:q->N}{vv:p->N}{m:O Nat}{l:U (q×p)}(s:Sp V T h0 G h)(f:ZiD kv vv V h0 m l):ZiD kv vv V h m l:=f.fz s.fz
end
def Zfp{b:Z}(h:(!b)=true):b=false:=by cases b<;>simp_all
def Zdf{b:Z}(h:(!b)=false):b=true:=by cases b<;>simp_all
section
variable{X:Ctx}{h:H}{ev:V0->O N}{d:Nat}{ty:J}{p:String}{af:V5 Edge}{g:O (Nat×Z)}
def ZJ{l:Type}{xs:U l}{v:l}{x y:V0}{t e:J}{sz b o q c:Nat}{a:O Addr}{k:Int}(hu:X.P.underlying t=some (.slice e))(B:YO X.P e=some sz)(A:ev x=some (.slice a q c))(r:ev y=some (V9 k))(hn:q=xs.length)(D:a=some ⟨b,o,none⟩)(C:Yl xs k=some v):
 XM X h ev ⟨some d,.indexAddr t x y,ty,p,af,g⟩=some (.val (.pointer (some ⟨b,o+k.toNat*sz,none⟩)),.none):=by subst hn;exact ZVs hu B A r D C
def QZ{q x y:V0}{b:Z}{v:N}(r:ev q=some (.bool b))(t:b=true)(l:ev x=some v):XM X h ev ⟨some d,.pick q x y,ty,p,af,g⟩=some (.val v,.none):=by subst t;rw[Zhj,r];dsimp only;rw[l];rfl
def Qs{q x y:V0}{b:Z}{v:N}(r:ev q=some (.bool b))(t:b=false)(l:ev y=some v):XM X h ev ⟨some d,.pick q x y,ty,p,af,g⟩=some (.val v,.none):=by subst t;rw[Zhj,r];dsimp only;rw[l];rfl
end
def WR.JC{X:Ctx}{f:V3}{args:V5 N}{h:H}{v:N}(l:plain v=true)(k:WR X f args h.size h (CP (V:=h.size) (fun v' Gb=>v'=v/\Gb=[]) [] h)):Pure X f args h v:=
 WF.ZRa l (k.mono fun _ _ ⟨v',h1,_,h2,_⟩=>⟨v',h1,h2.1⟩)
end
section
variable{X:Ctx}{n V:Nat}{rd:O Nat}{ops:V5 Oper}{fr:Fr}{h h1 h2 h0:H}{ty:J}{p:String}{af:V5 Edge}{g:O (Nat×Z)}{T:Nat->Prop}{G Gr Ga Gb:U (Ast V)}{d:Nat}
def Zfj(cs vs:U N)(o t:Nat)(l:o+vs.length<=cs.length):(splice cs o vs)[t]? =if o<=t/\t<o+vs.length then vs[t-o]? else cs[t]?:=by
 have h:(cs.take o).length=o:=by rw[Gl];omega
 unfold splice;rw[G9];by_cases h1:t<o;.rw[GT Vb,GB h1,if_neg Vb]
 rw[GW Vb,h];by_cases h2:t<o+vs.length;.rw[GT Vb,if_pos ⟨by omega,h2⟩]
 rw[GW Vb,Gz,if_neg Vb];congr 1;omega
def Zas(cs vs:U N)(o:Nat)(h:o+vs.length<=cs.length):(splice cs o vs).length=cs.length:=by unfold splice;simp only[Ks,Gl,GD];omega
def ZtG{cs vs:U N}{o a m:Nat}(l:o+vs.length<=cs.length)(p:a+m<=o\/o+vs.length<=a):((splice cs o vs).drop a).take m=(cs.drop a).take m:=by
 apply GL;intro t;by_cases h:t<m;.rw[GB h,GB h,Gz,Gz,Zfj _ _ _ _ l,if_neg Vb]
 rw[G0 (by rw[Gl];omega),G0 (by rw[Gl];omega)]
def Zni{cs vs:U N}{a j m:Nat}(r:a+m<=cs.length)(p:j+vs.length<=m):((splice cs (a+j) vs).drop a).take m=splice ((cs.drop a).take m) j vs:=by
 have h:((cs.drop a).take m).length=m:=by rw[Gl,GD];omega
 apply GL;intro t;rw[Zfj _ _ _ _ (by rw[h];exact p)];by_cases l:t<m
 .rw[GB l,Gz,Zfj _ _ _ _ Vb];by_cases h1:j<=t/\t<j+vs.length;.rw[if_pos h1,if_pos Vb];congr 1;omega
  rw[if_neg h1,if_neg Vb,GB l,Gz]
 have q:(((splice cs (a+j) vs).drop a).take m)[t]? =none:=G0 (by rw[Gl];omega);rw[q,if_neg Vb,G0 (by rw[h];omega)]
def Zf9{h:Type}(xs:U h)(k:Int)(y:h):(ZoA xs k y).length=xs.length:=by unfold ZoA;simp
def ZAn{h:Type}{xs:U h}{k:Int}{x y:h}(l:Yl xs k=some x)(j:Nat):(ZoA xs k y)[j]? =if j=k.toNat then some y else xs[j]?:=by
 have⟨h1,h2,_⟩:=ZbA l;unfold ZoA;rw[List.getElem?_set];by_cases e:j=k.toNat;.subst e;rw[if_pos rfl,if_pos rfl,if_pos h2]
 rw[if_neg (fun z=>e z.symm),if_neg e]
section
variable{α:Type}{e:U8 α}
def ZGg{a:O Addr}{c b o j:Nat}{xs:U α}{k:Int}{x y:α}{cs vs:U N}{q:e.Par}(I:Kg e V V h a c xs)(E:a=some ⟨b,o,none⟩)(S:Yl xs k=some x)(hA:At h b (o+k.toNat*e.sz) cs)(Q:cs.length=e.sz)(T:j+vs.length<=cs.length)
 (hy:splice cs j vs=e.sh q y) (hF:e.F V h q y):∃l,h.at b=.row l true e.sz/\o+k.toNat*e.sz+j+vs.length<=l.length/\V<=b/\∀C,Up V (fun i=>i=b) h C->C.at b=.row (splice l (o+k.toNat*e.sz+j) vs) true e.sz->Kg e V V C a c (ZoA xs k y)/\At C b (o+k.toNat*e.sz) (splice cs j vs):=by
 have⟨k1,k2,k3⟩:=ZbA S;rcases I.mem with⟨r,_⟩|⟨i,o',l,r,P,L,X,W,K⟩
 .rw[E]at r;cases r
 rw[E]at r;cases r;have D:=K.len;have hm:(k.toNat+1)*e.sz<=xs.length*e.sz:=Gy _ k2;rw[GZ]at hm
 have p:(l.drop (o+k.toNat*e.sz)).take e.sz=cs:=by
  have⟨cs',own,z,a1,a2,a3⟩:=hA;rw[L]at a1;cases a1;have:=a2;rw[Q]at this;exact this
 refine⟨l,L,by omega,P,fun C u B=>⟨⟨by rw[Zf9];exact I.max,.inr ⟨b,o,_,E,P,B,by rw[Zf9];exact X,by rw[Zas _ _ _ Vb];exact W,⟨by rw[Zf9,Zas _ _ _ Vb];exact D,fun t z A=>?_⟩⟩⟩,⟨_,_,_,B,?_,?_⟩⟩⟩
 .rw[ZAn S]at A;by_cases G:t=k.toNat;.rw[if_pos G]at A;cases A;subst G;exact⟨q,by rw[Zni Vb Vb,p,hy],e.mono (u.fz Vc) hF⟩
  rw[if_neg G]at A;have⟨q',g1,g2⟩:=K.get t z A;refine⟨q',?_,e.mono (u.fz Vc) g2⟩;rw[ZtG Vb,g1];rcases Gq t k.toNat with z1|z1
  .left;have:(t+1)*e.sz<=k.toNat*e.sz:=Gy _ z1;rw[GZ]at this;omega
  right;have:(k.toNat+1)*e.sz<=t*e.sz:=Gy _ Vb;rw[GZ]at this;omega
 .rw[Zas _ _ _ T,Q,Zni Vb Vb,p]
 rw[Zas _ _ _ T,Zas _ _ _ Vb];omega
def ZQZ{x y:V0}{t:J}{a:O Addr}{E c b o j D sz:Nat}{xs:U α}{k:Int}{L:α}(l:α){cs cs' vs:U N}{v:N}(q:e.Par)(I:Sp V T h0 G h)(pk:Pk G (ow V e a E c xs) Gr)(hs:YO X.P t=some sz)(W:YI fr x=some (.pointer (some ⟨b,D,none⟩)))(S:YI fr y=some v)
 (C:a=some ⟨b,o,none⟩) (hk:Yl xs k=some L) (hA:At h b (o+k.toNat*e.sz) cs) (ho:D=o+k.toNat*e.sz+j) (r:v.cells.toList=vs) (hn:Nat.beq vs.length sz=true) (hl:Nat.beq cs.length e.sz=true) (B:Nat.ble (j+vs.length) cs.length=true) (hc:vs.all Value.oneCell'=true) (hv:splice cs j vs=cs') (A:cs'=e.sh q l) (hF:e.F V h q l):
 HU X V ⟨none,.store t x y,ty,p,af,g⟩ fr h (Uh a) (fun K=>Sp V T h0 (ow V e a E c (ZoA xs k l)::Gr) K/\At K b (o+k.toNat*e.sz) cs'):=by
 have⟨h1,so⟩:=I.get pk;have B:=Nl0 B;have hn:=Nb0 hn;have⟨row,r1,r2,r3,r4⟩:=ZGg so C hk hA (Nb0 hl) B (hv.trans A) hF;subst ho;have⟨e1,e2⟩:=ZJc (d:=none) (ty:=ty) (p:=p) (af:=af) (g:=g) hs W S r1 r3 r hn (by rw[<-hn];exact r2) hc rfl;have u:Up V (fun i=>i=b) h (h.put b (.row (splice row (o+k.toNat*e.sz+j) vs) true e.sz)):=Up.put r3 (by rw[r1];rfl);have⟨w1,w2⟩:=r4 _ u (Yp (Y8 r1 rfl) _);refine⟨_,_,e1,e2,fun z Q=>?_,by simp,I.one pk u (fun i e=>by subst e;exact⟨o,C⟩) ⟨by rw[Zf9];exact h1,w1⟩ fun i e=>.inl e,hv▸w2⟩;have:b=z:=by simpa[Eff.tgt]using Q
 subst this;exact⟨o,C⟩
end
end
section
variable{X:Ctx}{n V:Nat}{rd:O Nat}{ops:V5 Oper}{fr:Fr}{h h1 h2 h0:H}{ty:J}{p:String}{af:V5 Edge}{g:O (Nat×Z)}{T:Nat->Prop}{G Gr Ga Gb:U (Ast V)}{d:Nat}
structure Ne(α:Type) where
 sz:Nat
 pos:0<sz
 Par:Type
 dflt:Par
 sh:Par->α->List Value
 len:∀p x,(sh p x).length=sz
 one:∀p x,(sh p x).all Value.oneCell'=true
 YF:(V:Nat)->Par->α->List (Ast V)
end
section
variable{X:Ctx}{n V:Nat}{rd:O Nat}{ops:V5 Oper}{l:U Oper}{fr:Fr}{h h1 h2 h0:H}{ty:J}{p:String}{af:V5 Edge}{g:O (Nat×Z)}{T:Nat->Prop}{G Gr Ga Gb:U (Ast V)}{d m:Nat}{sf:ST}
structure ZI0{α:Type}(e:U8 α)(a:Option Addr)(c:Nat)(xs:List α)(a':Option Addr)(c':Nat)(zs:List α):Prop where
 own:∀{V:Nat}{h:H},Kg e V V h a c xs->Kg e V V h a' c' zs
 sl:∀{V:Nat}{h:H},Sl e V h a c xs->Sl e V h a' c' zs
 base:∀i,Uh a' i->Uh a i
def ZAi{t:Type}{xs q:U t}{lo p:Int}(h:slL xs lo p=some q):∃l k:Nat,lo=(l:Int)/\p=(k:Int)/\l<=k/\k<=xs.length/\q=(xs.take k).drop l:=by
 unfold slL at h;by_cases h1:0<=lo
 .rw[decide_eq_true h1,Gv]at h;by_cases h2:lo<=p
  .rw[decide_eq_true h2,Gv]at h;by_cases r:p<=xs.length;.rw[decide_eq_true r]at h;cases h;exact⟨lo.toNat,p.toNat,by omega,by omega,by omega,by omega,rfl⟩
   rw[decide_eq_false r]at h;cases h
  rw[decide_eq_false h2]at h;cases h
 rw[decide_eq_false h1]at h;cases h
def Jg.piece{t:Type}{e:U8 t}{cs:U N}{o:Nat}{xs:U t}{l k:Nat}(a:Jg e V h cs o xs)(B:l<=k)(y:k<=xs.length):Jg e V h cs (o+l*e.sz) ((xs.take k).drop l):=by
 have p:((xs.take k).drop l).length=k-l:=by rw[GD,Gl];omega
 refine⟨?_,fun j x r=>?_⟩
 .rw[p];have:=a.len;have h1:k*e.sz<=xs.length*e.sz:=Gy _ y;have h2:l*e.sz+(k-l)*e.sz=k*e.sz:=by rw[<-Nat.add_mul];congr 1;omega
  omega
 have A:j<k-l:=by have:=(Li0 r).1;rwa[p]at this
 rw[Gz,GB Vb]at r;have⟨q,g1,g2⟩:=a.get _ x r;refine⟨q,?_,g2⟩;rw[<-g1,Nat.add_mul];congr 2;omega
def ZtE{F:Type}{e:U8 F}{i o c:Nat}{xs:U F}{l k t c':Nat}(L:l<=k)(P:k<=xs.length)(y:(t=o+l*e.sz/\c' / 2=c / 2-l)\/(t=o/\c / 2=l/\c' / 2=0)):
 ZI0 e (some ⟨i,o,none⟩) c xs (some ⟨i,t,none⟩) c' ((xs.take k).drop l):=by
 have p:((xs.take k).drop l).length=k-l:=by rw[GD,Gl];omega
 refine⟨fun{V h} s=>?_,fun{V h} s=>?_,fun K ⟨I,T⟩=>by cases T;exact⟨o,rfl⟩⟩
 .rcases s.mem with⟨q,_⟩|⟨K,I,cs,D,C,B,G,W,Q⟩
  .cases q
  cases D;have E:=s.max;refine⟨by rw[p];omega,.inr ⟨i,t,cs,rfl,C,B,?_,?_,?_⟩⟩
  .rw[p];rcases y with⟨_,z⟩|⟨_,A,x⟩
   .rw[z];omega
   omega
  .rcases y with⟨r,z⟩|⟨r,A,x⟩
   .rw[z,r];have h2:l*e.sz+(c / 2-l)*e.sz=c / 2*e.sz:=by rw[<-Nat.add_mul];congr 1;omega
    omega
   rw[x,r,Nat.zero_mul];omega
  rcases y with⟨r,z⟩|⟨r,A,x⟩
  .rw[r];exact Q.piece L P
  have he:(xs.take k).drop l=[]:=by apply G8;rw[p];omega
  rw[he];exact Jg.nil Vb
 have E:=s.max;refine⟨by rw[p];omega,?_,.inr (.inr ⟨i,t,rfl⟩),?_⟩;.have:=s.cap;rw[p];rcases y with⟨_,z⟩|⟨_,A,x⟩<;>omega
 rcases s.mem with q|⟨K,I,cs,own,z,D,C,B,G⟩
 .left;subst q;simp
 cases D;by_cases S:k-l=0;.left;apply G8;rw[p];exact S
 right;refine⟨i,t,cs,own,z,rfl,C,B,?_⟩;rcases y with⟨r,z⟩|⟨r,A,x⟩
 .rw[r];exact G.piece L P
 have:=s.cap;omega
def ZFQ{h:Type}{e:U8 h}{a:O Addr}{xs:U h}{l k:Nat}(p:xs=[]):ZI0 e a 0 xs a 0 ((xs.take k).drop l):=by
 subst p;have:(([]:U h).take k).drop l=[]:=by simp
 rw[this];exact⟨fun s=>s,fun s=>s,fun i f=>f⟩
def ZPm{α:Type}{e:U8 α}{t el:J}{x:V0}{lo A:O V0}{a:O Addr}{nn c:Nat}{xs zs:U α}{a1 a2:Int}(so:Kg e V V h a c xs)(hn:nn=xs.length)(hu:X.P.underlying t=some (.slice el))(hs:YO X.P el=some e.sz)(hx:YI fr x=some (.slice a nn c))
 (L:evo (YI fr) lo=some none/\a1=0\/∃k,evo (YI fr) lo=some (some (.int k a1))) (S:evo (YI fr) A=some none/\a2=xs.length\/∃k,evo (YI fr) A=some (some (.int k a2))) (hz:slL xs a1 a2=some zs):
 ∃a' c',XM X h (YI fr) ⟨some d,.slice t x lo A none,ty,p,af,g⟩=some (.val (.slice a' zs.length c'),.none)/\ZI0 e a c xs a' c' zs:=by
 obtain⟨l,k,rfl,rfl,F,D,rfl⟩:=ZAi hz;subst hn;have B:((xs.take k).drop l).length=k-l:=by rw[GD,Gl];omega
 obtain⟨y,W,I⟩:∃y,evo (YI fr) lo=some y/\obN y 0=some l:=by
  rcases L with⟨z,z2⟩|⟨kk,z⟩
  .exact⟨none,z,by have:l=0:=Vb
                   subst this;rfl⟩
  exact⟨_,z,rfl⟩
 obtain⟨r,eh1,K⟩:∃r,evo (YI fr) A=some r/\obN r xs.length=some k:=by
  rcases S with⟨z,z2⟩|⟨kk,z⟩
  .exact⟨none,z,by have:k=xs.length:=Vb
                   subst this;rfl⟩
  exact⟨_,z,rfl⟩
 have E:∀v,aslice X.P h t (.slice a xs.length c) y r none=some v->XM X h (YI fr) ⟨some d,.slice t x lo A none,ty,p,af,g⟩=some (.val v,.none):=fun v hv=>by
  show(match YI fr x,evo (YI fr) lo,evo (YI fr) A,evo (YI fr) none with
   | some x,some lo,some A,some mx=>bif plain x&&not (ZBf x) then(match lo,A,mx with|lo,A,mx=>bif Jf (lo.toList++A.toList++mx.toList) then pN (Kr X.P (Instr.sliceAt t x lo A mx)) else none)
     else vN (aslice X.P h t x lo A mx)
   | _,_,_,_=>none)=_
  rw[hx,W,eh1];show(bif plain (.slice a xs.length c)&&not (ZBf (.slice a xs.length c)) then _ else vN (aslice X.P h t (.slice a xs.length c) y r none))=_;have:ZBf (.slice a xs.length c)=true:=rfl;rw[this,J0,Bool.and_false,Cq0,hv];rfl
 rcases so.mem with⟨rfl,rfl,rfl⟩|⟨i,o,cs,rfl,q2,q3,q4,q5,q6⟩
 .have Q:k=0:=by simpa using D
  have C:l=0:=Vb;subst Q C;refine⟨none,0,E _ ?_,ZFQ rfl⟩;have ZZj:obN r 0=some 0:=K
  have:aslice X.P h t (V8) y r none=some (V8):=by
   unfold aslice;simp only[hu,hs,I,ZZj]
  exact this
 have q:∀v,(bif Nat.ble l k&&Nat.ble k (c / 2) then
  bif Nat.beq (c % 2) 0 then some (Value.slice (some ⟨i,bif Nat.beq (c / 2) l then o else o+l*e.sz,none⟩) (k-l) (2*(c / 2-l)))
  else bif Nat.beq l 0 then some (.slice (some ⟨i,o,none⟩) k c)
  else match h.at i with|.row _ true s=>bif Nat.beq s e.sz&&Nat.ble 1 e.sz then some (.slice (some ⟨i,o+l*e.sz,none⟩) (k-l) (2*(c / 2-l)+1)) else none|_=>none
  else none)=some v->aslice X.P h t (.slice (some ⟨i,o,none⟩) xs.length c) y r none=some v:=fun v hv=>by
  unfold aslice;simp only[hu,hs,I,K];exact hv
 have b1:(Nat.ble l k&&Nat.ble k (c / 2))=true:=by rw[Nm0 F,Nm0 (KK D q4)];rfl
 rw[b1]at q;simp only[Cq1]at q;cases G:Nat.beq (c % 2) 0 with
 | true=>
   rw[G]at q;simp only[Cq1]at q;refine⟨_,_,E _ (by rw[B];exact q _ rfl),ZtE F D ?_⟩;cases T:Nat.beq (c / 2) l with|true=>right;have:=Nb0 T;exact⟨rfl,this,by omega⟩|false=>left;exact⟨rfl,by omega⟩
 | false=>
   rw[G]at q;simp only[Cq0]at q;cases C:Nat.beq l 0 with
   | true=>
     have:=Nb0 C;subst this;rw[C]at q;simp only[Cq1]at q;exact⟨_,_,E _ (by rw[B];exact q _ rfl),ZtE F D (.inl ⟨by omega,by omega⟩)⟩
   | false=>
     rw[C,q3]at q;simp only[Cq0]at q;have b2:(Nat.beq e.sz e.sz&&Nat.ble 1 e.sz)=true:=by rw[Nat.beq_refl,Nm0 (show 1<=e.sz from e.pos)];rfl
     rw[b2]at q;exact⟨_,_,E _ (by rw[B];exact q _ rfl),ZtE F D (.inl ⟨rfl,by omega⟩)⟩
end
section
variable{X:Ctx}{n V:Nat}{rd:O Nat}{ops:V5 Oper}{l:U Oper}{fr:Fr}{ds:U V7}{h h1 h2 h0:H}{ty:J}{p:String}{af:V5 Edge}{g:O (Nat×Z)}{T:Nat->Prop}{G Gr Ga Gb:U (Ast V)}{d m:Nat}{sf:ST}
section
variable{α:Type}{e:U8 α}{a a1:O Addr}{nn c n1 c1:Nat}{ps:Nat->O Addr×Nat×Nat}{xs:U (U α)}
def Zsr{ev:V0->O N}{x:V0}{v:N}(h:ev x=some v):evo ev (some x)=some (some v):=by show(match ev x with|some v=>some (some v) | none=>none)=_;rw[h]
end
def ZlW{f:V3}:YI fr (.func f)=some (.func (.func f) #[] #[]):=Zs3 fr f
end
section
variable{X:Ctx}{h:H}{ev:V0->O N}{d:O Tmp}{ty:J}{p:String}{af:V5 Edge}{g:O (Nat×Z)}{P:V2}
def Zof{h:BinOp}{t:J}{x y:V0}{k:IntKind}{a b c:Int}(q:binOp h t (.int k a) (.int k b)=pure (.int k c))(hn:h≠.eql/\h≠.neq):X9 P h t x y (.int k a) (.int k b)=some (.val (.int k c),.none):=by
 have l:(plain (.int k a)&&plain (.int k b))=true:=rfl;unfold X9;rw[l,Cq1]
 have p:(do eqGuard h t x y (.int k a) (.int k b);binOp h t (.int k a) (.int k b):Sem N)=pure (.int k c):=by
  rw[q];cases h<;>first|rfl|exact absurd rfl hn.1|exact absurd rfl hn.2
 rw[p];rfl
def Zzp{t:J}{x y:V0}{a b c:Int}(h:Zx9 a b=some c):X9 P .quo t x y (V9 a) (V9 b)=some (.val (V9 c),.none):=by obtain⟨h1,rfl⟩:=Zx8 h;exact Zof (by simp[binOp,Op.intDiv,h1,XD]) ⟨by simp,by simp⟩
def Zzo{t:J}{x y:V0}{k:IntKind}{a b c:Int}(h:Zx6 a b=some c):X9 P .rem t x y (.int k a) (.int k b)=some (.val (.int k c),.none):=by obtain⟨h1,rfl⟩:=Zx5 h;exact Zof (by simp[binOp,Op.intDiv,h1]) ⟨by simp,by simp⟩
def ZPr{s t:J}{x:V0}{k l:IntKind}{a:Int}{r:TypeDesc}(B:X.P.underlying s=some r)(A:X.P.underlying t=some (.int l))(y:ev x=some (.int k a)):XM X h ev ⟨d,.convert s t x,ty,p,af,g⟩=some (.val (.int l (l.wrap a)),.none):=by
 have:XM X h ev ⟨d,.convert s t x,ty,p,af,g⟩=(match ev x with|some a=>bif plain a then pN (Kr X.P (convert s t a)) else vN (Ziy X.P h s t a)|none=>none):=rfl;rw[this,y];have q:plain (.int k a)=true:=rfl;dsimp only;rw[q,Cq1]
 have C:ZF X.P (convert s t (.int k a))=some (.ok (.int l (l.wrap a))):=by
  unfold convert;rw[prb (YW B),prb (YW A)];rfl
 unfold Kr;rw[C];rfl
def ZEt{x y:V0}{ts:V5 J}{k:IntKind}{a b:Int}(r:ev x=some (.int k a))(q:ev y=some (.int k b)):XM X h ev ⟨d,.call {callee:=.builtin .max,args:=#[x,y],argTypes:=ts},ty,p,af,g⟩=some (.val (.int k (if b>a then b else a)),.none):=by have l:evs ev (#[x,y]:V5 V0).toList=some [.int k a,.int k b]:=Zb r (Zb q Zd);rw[U4,l];show(bif Jf [.int k a,.int k b] then pN (Kr X.P (Builtin.max_ ts ty #[.int k a,.int k b])) else none)=_;have:Builtin.max_ ts ty #[.int k a,.int k b]=pure (.int k (if b>a then b else a)):=rfl;rw[this];rfl
end
section
variable{X:Ctx}{n V:Nat}{rd:O Nat}{ops:V5 Oper}{ol:U Oper}{fr:Fr}{ds:U V7}{h h0:H}{ty:J}{p:String}{af:V5 Edge}{g:O (Nat×Z)}{T:Nat->Prop}{G Gr:U (Ast V)}{d l df:Nat}{LO:Xv}{ps:V5 Tmp}{YF bd:Code}
def bsy:Xv->Xv
 | .loop _ l fr n h YF q p=>.loop .busy l fr n h YF q p
 | A=>A
structure RgE(V l:Nat)(fr:Fr)(n:Nat)(ps:Array Tmp)(YF bd:Code)(df:Nat)(ds:List Deferred)(Q:XX->Fs->Prop)(h:H):Prop where
 at_:h.at l=.loop .ready none fr n ps YF bd df
 low:V<=l
 k:∀h',Up V (fun i=>i=l) h h'->Q .normal ⟨fr,⟨.collected df,#[]⟩::ds,h',none⟩
def RgE.sp{Q:XX->Fs->Prop}(q:LO=.loop .ready none fr n ps YF bd df)(r:Sp V T h0 G h)(pk:Pk G (ob V l LO) Gr)(k:∀p,Sp V T h0 Gr p->Q .normal ⟨fr,⟨.collected df,#[]⟩::ds,p,none⟩):RgE V l fr n ps YF bd df ds Q h:=by have⟨h1,h2,h3⟩:=r.get pk;refine⟨h1.trans q,h2,fun p u=>k p ?_⟩;exact Sp.step (Ga:=[ob V l LO]) (Gb:=[]) (r.perm pk.perm) u (fun i e=>⟨_,J1.2 rfl,e⟩) ZV.nil fun i ⟨A,m,f⟩=>by simp at m
def Zfo{A:Xv}(l:A.own=true)(s:Sp V T h0 Gr h):Sp V T h0 (ob V h.size A::Gr) (h.push A):=
 Sp.new s (Up.push V h A) ⟨Jm h A,s.hw,l⟩ fun i e=>by have:i=h.size:=e;omega
def WC.ZtT{Q:XX->Fs->Prop}{x:V0}{f:V3}{first cap:U N}(K:Sp V T h0 G h)(I:YI fr x=some (.func (.func f) first.toArray cap.toArray))(r:(X.fns.get f).isSome=true)
 (k:∀D l y E,E=Xv.loop .ready none fr n ps YF bd y->Sp V T h0 (ob V l E::ob V y .deferred::G) D->WR X f (first++([Value.func (.yield l) #[] #[]]++cap)).toArray V D (fun _ h2=>RgE V l fr n ps YF bd y ds Q h2)):
 WC X n V none (.rangeFunc x ps YF bd) ⟨fr,ds,h,none⟩ Q:=by
 have s1:Sp V T h0 (ob V h.size .deferred::G) (h.push .deferred):=Zfo rfl K
 have s2:Sp V T h0 (ob V (h.size+1) (.loop .ready none fr n ps YF bd h.size)::ob V h.size .deferred::G) ((h.push .deferred).push (.loop .ready none fr n ps YF bd h.size)):=by
  have:=Zfo (A:=.loop .ready none fr n ps YF bd h.size) rfl s1;rwa[H.size_push]at this
 have⟨fn,r⟩:=GJ.1 r;obtain⟨e,B,⟨v,rfl,q⟩,F⟩:=k _ _ _ _ rfl s2;have p:=q.at_;refine⟨.normal,_,q.k (B.put (h.size+1) (.loop .exhausted none fr n ps YF bd h.size)) (Up.put q.low (by rw[p];rfl)),?_⟩;refine QU.2 (JK (C:=cfg X fun _=>false) (ih:=Jb (.call f _ V _) (.fin (.ret v) B)) (Xx F) ?_);show QF (cfg X fun _=>false) _ x n V none (h.size+1) ⟨fr,⟨.collected h.size,#[]⟩::ds,(h.push .deferred).push (.loop .ready none fr n ps YF bd h.size),none⟩=_;unfold QF;dsimp only;rw[I]
 have t:U5 (cfg X fun _=>false).X ((h.push .deferred).push (.loop .ready none fr n ps YF bd h.size)) (.func (.func f) first.toArray cap.toArray) [Value.func (.yield (h.size+1)) #[] #[]]=some (.enter f (first++([Value.func (.yield (h.size+1)) #[] #[]]++cap)).toArray,.none):=by
  unfold U5;have:(cfg X fun _=>false).X.fns.get f=some fn:=r;dsimp only;rw[this];simp only[G9]
 dsimp only;rw[t];dsimp only;unfold Wx;rw[Xy];dsimp only;rw[p];rfl
def WR.ZGA{f:V3}{args:V5 N}{K:N->H->Prop}{p β:Type}{r:β}(I:p->N->H->Prop)(j:p->O β)(k:∀x v l,j x=some r->I x v l->K v l)(q:WR X f args V h (fun v l=>∃x,j x=some r/\I x v l)):WR X f args V h K:=
 q.mono fun _ l ⟨v,e,x,h1,h2⟩=>⟨v,e,k x v l h1 h2⟩
def AsK.sp{t:Fr}{R:H->Prop}(p:LO=.loop .ready none fr n ps YF bd df)(r:Sp V T h0 G h)(pk:Pk G (ob V l LO) Gr)(k:∀h1,Sp V T h0 (ob V l (bsy LO)::Gr) h1->WC X n V (some l) bd ⟨t,ds,h1,none⟩ (BdK n V l fr ps YF bd df R)):AsK X n V V l fr ps YF bd df R .normal ⟨t,ds,h,none⟩:=by have⟨h1,h2,h3⟩:=r.get pk;refine AsK.mk' (h1.trans p) fun x u e=>k x ?_;exact r.one pk (u h2) (fun _ q=>q) ⟨by rw[e,p];rfl,h2,by rw[p];rfl⟩ fun _ q=>.inl q
def BdK.sp{XI:Fr}{R:H->Prop}(hLO:LO=.loop .ready none fr n ps YF bd df)(hS:Sp V T h0 G h)(pk:Pk G (ob V l (bsy LO)) Gr)(k:∀h1,Sp V T h0 (ob V l LO::Gr) h1->R h1):BdK n V l fr ps YF bd df R .normal ⟨XI,ds,h,none⟩:=by have⟨h1,h2,h3⟩:=hS.get pk;refine BdK.mk' (h1.trans (by rw[hLO];rfl)) fun h' u e=>k h' ?_;exact hS.one pk (u h2) (fun _ q=>q) ⟨by rw[e,hLO],h2,by rw[hLO];rfl⟩ fun _ q=>.inl q
def WO.ZKR{Q:XX->Fs->Prop}{A:V0}{xs:V5 V0}{ts:V5 J}{vs:U N}{x:Nat}{B E:Fr}{q t:Code}(L:Yg ops ⟨some d,.call {callee:=.value A,args:=xs,argTypes:=ts},ty,p,af,g⟩ fr)(S:Nat.blt d n=true)(P:YI fr A=some (.func (.yield l) #[] #[]))(F:evs (YI fr) xs.toList=some vs)
 (W:Sp V T h0 G h) (pk:Pk G (ob V l LO) Gr) (y:LO=.loop .ready none B x ps q t df) (C:Nat.beq vs.length ps.toList.length=true) (I:X7 (ps.toList.zip vs) x B=some E)
 (k:WC X x V (some l) q ⟨E,[],h,none⟩ (AsK X x V V l B ps q t df (fun D=>WO X n V rd ops ol ⟨Tr.set fr d (.bool true),ds,D,none⟩ Q))):
 WO X n V rd ops (⟨some d,.call {callee:=.value A,args:=xs,argTypes:=ts},ty,p,af,g⟩::ol) ⟨fr,ds,h,none⟩ Q:=by
 have⟨h1,h2,h3⟩:=W.get pk;have r:=h1.trans y;refine WO.yld L S P F r (Nb0 C) (Zs7.mk' (lo:=V) r h2 C I k) fun b D ⟨e,K⟩=>?_;rw[e];exact K
def Z8.ZfJ{fn:Func}{R:WJ->H->Prop}(p:Sp V T h0 G h)(pk:Pk G (ob V df .deferred) Gr)(k:∀l,Sp V T h0 Gr l->Z8 X fn V R .ret ⟨fr,ds,l,none⟩):Z8 X fn V R .ret ⟨fr,⟨.collected df,#[]⟩::ds,h,none⟩:=by have⟨h1,h2,h3⟩:=p.get pk;refine Z8.col V h2 h1 h2 fun l u=>k l ?_;exact Sp.step (Ga:=[ob V df .deferred]) (Gb:=[]) (p.perm pk.perm) u (fun i e=>⟨_,J1.2 rfl,e⟩) ZV.nil fun i ⟨A,m,f⟩=>by simp at m
end
section
variable{X:Ctx}{n V:Nat}{rd:O Nat}{ops:V5 Oper}{l:U Oper}{fr:Fr}{ds:U V7}{h h1 h2 h0:H}{ty:J}{p:String}{af:V5 Edge}{g:O (Nat×Z)}{m:Nat}{T:Nat->Prop}{G Gr Ga Gb:U (Ast V)}{d:Nat}{sf:ST}
def HW(X:Ctx)(V:Nat)(o:Oper)(fr:Fr)(h:H)(K:H->Prop):Prop:=∃v E h1,XM X h (YI fr) o=some (.val v,E)/\E.apply V h=some h1/\K h1
def WO.hw{Q:XX->Fs->Prop}{q:Op}{K:H->Prop}(t:Yg ops ⟨none,q,ty,p,af,g⟩ fr)(s:HW X V ⟨none,q,ty,p,af,g⟩ fr h K)(k:∀r,K r->WO X n V rd ops l ⟨fr,ds,r,none⟩ Q):
 WO X n V rd ops (⟨none,q,ty,p,af,g⟩::l) ⟨fr,ds,h,none⟩ Q:=let⟨_,_,h1,ha,hE,hk⟩:=s;WO.val t rfl ha hE (k h1 hk)
section
variable{κ ν:Type}[DecidableEq κ]{kt vt:J}{kv:κ->N}{vv:ν->N}{i:Nat}{ll:U (κ×ν)}
theorem ZLu{ts:V5 J}{t:J}{rest:U J}{x y:V0}{k:κ}(r:Sp V T h0 G h)(pk:Pk G (mp V kv vv (some i) ll) Gr)(K:Zd2 X.P kt kv)(l:ts.toList=t::rest)(hu:X.P.underlying t=some (.map kt vt))(B:YI fr x=some (.map (some i)))(A:YI fr y=some (kv k)):
 HW X V ⟨none,.call {callee:=.builtin .delete,args:=#[x,y],argTypes:=ts},ty,p,af,g⟩ fr h (fun q=>Sp V T h0 (mp V kv vv (some i) (Zfs ll k)::Gr) q):=by
 have⟨q,⟨E,ha,hE,_⟩,u,ho⟩:=ZO3 (d:=none) (ty:=ty) (p:=p) (af:=af) (g:=g) K l hu (K1 V) B rfl A (r.get pk);exact⟨_,E,q,ha,hE,r.one pk u (fun j e=>by cases e;rfl) ho fun j e=>.inl e⟩
end
end
section
variable{X:Ctx}{n V:Nat}{rd:O Nat}{ops:V5 Oper}{l:U Oper}{fr:Fr}{ds:U V7}{h h1 h2 h0:H}{ty:J}{p:String}{af:V5 Edge}{g:O (Nat×Z)}{m:Nat}{T:Nat->Prop}{G Gr Ga Gb:U (Ast V)}{d:Nat}{sf:ST}
def HE(X:Ctx)(o:Oper)(fr:Fr)(h:H)(K:N->Prop):Prop:=∃v,XM X h (YI fr) o=some (.val v,.none)/\K v
def WO.he{Q:XX->Fs->Prop}{q:Op}{K:N->Prop}(r:Yg ops ⟨some d,q,ty,p,af,g⟩ fr)(t:Nat.blt d n=true)(s:HE X ⟨some d,q,ty,p,af,g⟩ fr h K)(k:∀v,K v->WO X n V rd ops l ⟨Tr.set fr d v,ds,h,none⟩ Q):
 WO X n V rd ops (⟨some d,q,ty,p,af,g⟩::l) ⟨fr,ds,h,none⟩ Q:=let⟨v,ha,hk⟩:=s;WO.w r t ha (k v hk)
section
variable{α:Type}{e:U8 α}{t el:J}{x:V0}{a:O Addr}{nn c:Nat}{xs zs ws us:U α}{a1 a2 a3:Int}
def ZJk{lo r:O V0}(A:Kg e V V h a c xs)(hn:nn=xs.length)(hu:X.P.underlying t=some (.slice el))(D:YO X.P el=some e.sz)(C:YI fr x=some (.slice a nn c))
 (q:evo (YI fr) lo=some none/\a1=0\/∃k,evo (YI fr) lo=some (some (.int k a1))) (y:evo (YI fr) r=some none/\a2=xs.length\/∃k,evo (YI fr) r=some (some (.int k a2))) (B:slL xs a1 a2=some zs):
 HE X ⟨some d,.slice t x lo r none,ty,p,af,g⟩ fr h (fun v=>∃l c',v=.slice l zs.length c'/\ZI0 e a c xs l c' zs):=
 let⟨l,c',h1,h2⟩:=ZPm (d:=d) (ty:=ty) (p:=p) (af:=af) (g:=g) A hn hu D C q y B;⟨_,h1,l,c',rfl,h2⟩
end
end
section
variable{X:Ctx}{n V:Nat}{rd:O Nat}{ops:V5 Oper}{l:U Oper}{fr:Fr}{ds:U V7}{h h1 h2 h0:H}{ty:J}{p:String}{af:V5 Edge}{g:O (Nat×Z)}{T:Nat->Prop}{G Gr Ga Gb:U (Ast V)}{d:Nat}
def YG{l β:Type}{y:l}{p:Int->O β}{k:l->O β}{r:β}(h:JN (.ok y) p k=some r):k y=some r:=h
def Yj{l β:Type}{e:Int}{p:Int->O β}{k:l->O β}{r:β}(h:JN (.Ym e) p k=some r):p e=some r:=h
def pv(t:J)(k:Int):N:=.iface t (bif Nat.beq t 147 then .agg #[V9 k] else V9 k)
def PQ{β:Type}{V:Nat}(t:J)(K:β->N->U (Ast V)->Prop)(Ga:U (Ast V))(h:H)(r:PR β):WJ->H->Prop:=fun e l=>match r with|.ok b=>∃v,e=.ret v/\CP (K b) Ga h v l|.Ym k=>e=.Ym (pv t k)/\Sp V (QA Ga) h [] l
section
variable{β:Type}{t:J}{K:β->N->U (Ast V)->Prop}{f:V3}{args:V5 N}
def PQ.ok{b:β}(k:WF X f args V h (PQ t K Ga h (.ok b))):WR X f args V h (CP (K b) Ga h):=k
def PQ.Ym{k:Int}(w:WF X f args V h (PQ t K Ga h (.Ym k))):∃l,Sp V (QA Ga) h [] l/\Y7 X (.call f args V h) (.fin (.Ym (pv t k)) l):=
 let⟨_,l,hq,hj⟩:=w;⟨l,hq.2,by have:=hq.1;subst this;exact hj⟩
def WO.KC{Q:XX->Fs->Prop}{x:Op}{k:Int}(B:Yg ops ⟨some d,x,ty,p,af,g⟩ fr)(he:ZX X fr ⟨some d,x,ty,p,af,g⟩ f args)(y:Sp V T h0 G h)(pk:Sel G Ga Gr)
 (C:∀q:H,q.size=h.size->Fz V h q->ZV Ga q->WF X f args V q (PQ t K Ga q (.Ym k))) (A:∀r,Sp V T h0 Gr r->Q (.panic (pv t k)) ⟨fr,ds,r,none⟩):
 WO X n V rd ops (⟨some d,x,ty,p,af,g⟩::l) ⟨fr,ds,h,none⟩ Q:=by
 have⟨r,hs,hj⟩:=PQ.Ym (C h rfl (Fz.refl _ _) (y.Zac pk));exact WO.Zl6 B (he h) rfl hj (A r (y.call pk hs))
def Z8.KT{fn:Func}{p:U ResultVar}{vs:U N}{v:N}{b:β}{l:H}(q:fn.results.toList=p)(hv:ZdR X.P fr h p=some vs)(r:(match vs with | [v]=>v|vs=>.tuple vs.toArray)=v)(k:CP (K b) Ga l v h):Z8 X fn V (PQ t K Ga l (.ok b)) .ret ⟨fr,[],h,none⟩:=
 Z8.gen (R:=fun v x=>CP (K b) Ga l v x) q hv r k
end
def Xg(X:Ctx)(fn:Func)(V:Nat)(Q:WJ->H->Prop)(l:PM)(s:Fs):Prop:=∃E h,Q E h/\Y7 X (.leave fn V l s) (.fin E h)
section
variable{fn:Func}{R:WJ->H->Prop}{s:Fs}{v:N}{pm:PM}
def Z8.ofP(k:Xg X fn V R .ret s):Z8 X fn V R .ret s:=let⟨E,h',h1,h2⟩:=k;⟨⟨.ret,E,h',rfl,h1,h2⟩⟩
def Z8.K9(k:Xg X fn V R (.Ym v) s):Z8 X fn V R (.panic v) s:=let⟨E,h',h1,h2⟩:=k;⟨⟨.Ym v,E,h',rfl,h1,h2⟩⟩
def Xg.ofL(k:Z8 X fn V R .ret s)(h:pm=.ret):Xg X fn V R pm s:=by have⟨pm',E,h',e,h1,h2⟩:=k.out;cases e;subst h;exact⟨E,h',h1,h2⟩
def Xg.Ym(k:R (.Ym v) h):Xg X fn V R (.Ym v) ⟨fr,[],h,none⟩:=by refine⟨.Ym v,h,k,Us (C:=cfg X fun _=>false) (ih:=fun _=>none) (fun _ _ h=>by cases h) ?_⟩;unfold Kk;rfl
def DC(X:Ctx)(n V:Nat)(c:Code)(p:PM)(s:Fs)(Q:XX->PM->Fs->Prop):Prop:=∃e h l,Q e h l/\Y7 X (.QL c n V p s) (.QL e h l)
structure DSq(X:Ctx)(n V:Nat)(b:Code)(Q:XX->PM->Fs->Prop)(e:XX)(pm:PM)(s:Fs):Prop where
 YC:e=.normal
 k:DC X n V b pm s Q
def DC.seq{a b:Code}{Q:XX->PM->Fs->Prop}(k:DC X n V a pm s (DSq X n V b Q)):DC X n V (.seq a b) pm s Q:=by obtain⟨e,I,s1,⟨rfl,e2,G,s2,P,K⟩,L⟩:=k;have⟨_,_,_,r,ka⟩:=QB.1 L;cases r;have⟨_,_,_,q,kb⟩:=QB.1 K;cases q;refine⟨_,_,_,P,QB.2 ⟨_,_,_,rfl,fun ρ a c0 cs w B A t=>wpSIn_seq (Jq (ka ρ a c0 cs w B A t) ?_)⟩⟩;rintro e' T cs' w' ⟨p,D,rfl,x,he,y,h⟩;cases he;refine Jq (kb p T {c0 with mode:=D} cs w' (KK B h.size) y x) ?_;rintro e3 a3 S W ⟨l,C,rfl,r,q,F,E⟩;exact⟨l,C,rfl,r,q,F,h.trans A.rel.lt E⟩
def DC.rgn{id:Nat}{ops:V5 Oper}{l:Z}{Q:XX->PM->Fs->Prop}(hn:(!l&&ops.toList.any isRecover)=false)(k:WC X n V none (.region id ops l) s (fun e h=>Q e pm h)):DC X n V (.region id ops l) pm s Q:=by have⟨e,h,hq,j⟩:=k;refine⟨e,pm,h,hq,QB.2 (Ut (C:=cfg X fun _=>false) (ih:=Jb (.code (.region id ops l) n V none s) (.code e h)) (Xx (QU.2 ⟨_,_,rfl,j⟩)) ?_)⟩;unfold Zb1;dsimp only;rw[hn];unfold ZdK;rw[Xy];rfl
def DC.skip{Q:XX->PM->Fs->Prop}(k:Q .normal pm s):DC X n V .skip pm s Q:=by obtain⟨e,h,l,j⟩:WC X n V none .skip s (fun e h=>Q e pm h):=WC.skip k;refine⟨e,pm,h,l,QB.2 (Ut (C:=cfg X fun _=>false) (ih:=Jb (.code .skip n V none s) (.code e h)) (Xx (QU.2 ⟨_,_,rfl,j⟩)) ?_)⟩;unfold Zb1 ZdK;dsimp only;rw[Xy];rfl
def DC.Zn5{c:V0}{a b:Code}{t:Z}{Q:XX->PM->Fs->Prop}{fr:Fr}(p:YI fr c=some (.bool t))(l:t=true)(k:DC X n V a pm ⟨fr,ds,h,none⟩ Q):DC X n V (.cond c a b) pm ⟨fr,ds,h,none⟩ Q:=by subst l;have⟨e,pm',s',hq,j⟩:=k;refine⟨e,pm',s',hq,QB.2 (Ut (C:=cfg X fun _=>false) (ih:=Jb (.QL a n V pm ⟨fr,ds,h,none⟩) (.QL e pm' s')) (Xx j) ?_)⟩;unfold Zb1;dsimp only;rw[p];exact Xy _ _
def DC.Zhb{c:V0}{a b:Code}{t:Z}{Q:XX->PM->Fs->Prop}{fr:Fr}(p:YI fr c=some (.bool t))(l:t=false)(k:DC X n V b pm ⟨fr,ds,h,none⟩ Q):DC X n V (.cond c a b) pm ⟨fr,ds,h,none⟩ Q:=by subst l;have⟨e,pm',s',hq,j⟩:=k;refine⟨e,pm',s',hq,QB.2 (Ut (C:=cfg X fun _=>false) (ih:=Jb (.QL b n V pm ⟨fr,ds,h,none⟩) (.QL e pm' s')) (Xx j) ?_)⟩;unfold Zb1;dsimp only;rw[p];exact Xy _ _
def DC.rec{id:Nat}{ops:V5 Oper}{Q:XX->PM->Fs->Prop}(l:PM)(p:Fr)(r:Zy1 X n V ops.toList ops.toList pm ⟨fr,ds,h,none⟩=some (l,⟨p,ds,h,none⟩))(hn:ops.toList.any isRecover=true)(k:Q .normal l ⟨p,ds,h,none⟩):DC X n V (.region id ops false) pm ⟨fr,ds,h,none⟩ Q:=by refine⟨.normal,l,_,k,QB.2 (Ut (C:=cfg X fun _=>false) (ih:=fun _=>none) (fun _ _ h=>by cases h) ?_)⟩;unfold Zb1;dsimp only;rw[hn];have q:Zy1 (cfg X fun _=>false).X n V ops.toList ops.toList pm ⟨fr,ds,h,none⟩=some (l,⟨p,ds,h,none⟩):=r;rw[q];rfl
structure DEn(X:Ctx)(fn:Func)(V:Nat)(R:WJ->H->Prop)(fr:Fr)(ds:List Deferred)(e:XX)(pm:PM)(s:Fs):Prop where
 YC:e=.normal
 no:s.ds=[]
 k:Xg X fn V R (Zjw pm) ⟨fr,ds,s.h,none⟩
end
section
def WO.pnc{Q:XX->Fs->Prop}{x:V0}{t:J}{v:N}(r:Yg ops ⟨none,.panic x,ty,p,af,g⟩ fr)(q:YI fr x=some (.iface t v))(k:Q (.panic (.iface t v)) ⟨fr,ds,h,none⟩):WO X n V rd ops (⟨none,.panic x,ty,p,af,g⟩::l) ⟨fr,ds,h,none⟩ Q:=by refine WO.panic (E:=.none) (h1:=h) r ?_ rfl k;show(match YI fr x with|some (.iface t v)=>some (AN.panic (.iface t v),Eff.none)|_=>none)=_;rw[q]
def Zbi{x:V0}{t:J}{v:N}(r:YI fr x=some v)(l:(match X.P.underlying t with|some (.interface _)=>false|some _=>true|none=>false)=true):XM X h (YI fr) ⟨some d,.makeInterface t x,ty,p,af,g⟩=some (.val (.iface t v),.none):=by
 show(match YI fr x,X.P.underlying t with|some _,some (.interface _)=>none|some v,some _=>some (AN.val (.iface t v),Eff.none)|_,_=>none)=_
 rw[r];cases q:X.P.underlying t with|none=>rw[q]at l;cases l|some u=>
   rw[q]at l;cases u;case interface=>cases l
   all_goals rfl
end
end
section
variable{X:Ctx}{n V:Nat}{rd:O Nat}{ops:V5 Oper}{l:U Oper}{rest:Code}
def WO.body{s:Fs}{Q:XX->Fs->Prop}(k:WO X n V rd ops l s (Yx X n V rd rest Q)):∃e C,Q e C/\∀{ρ:Ren}{F:Fence}{a:Act}{w:V4},Inv ρ n s a w->V<=s.h.size->FR' ρ rd F->∀y:Exit->Act->V4->Prop,(∀B x w',Qz V n ρ s.h w e C B x w'->y B x w') ->
 wpListIn F 0 X.P ops (Exit.then (rest.wpIn F 0 X.P y) y) l a w:=by
 have⟨e1,s1,A,ho⟩:=k.out;have A:=A.out;cases e1 with
 | normal=>
   have⟨e,C,hq,hj⟩:=A;have⟨_,_,q0,kb⟩:=QU.1 hj;cases q0;refine⟨e,C,hq,fun{ρ F a w} p hw q y t=>ho _ p hw q fun B x w' r=>?_⟩;have⟨ρ',he,hi',hst⟩:=r;cases he;exact wpIn_mono (kb ρ' x w' F (KK hw hst.size) hi' (q.mono hst.ext)) fun E G w2 D=>t _ _ _ (Qz.trans p.rel.lt hst D)
 | exit id=>
   refine⟨_,s1,A,fun{ρ F a w} p hw q y t=>ho _ p hw q fun B x w' r=>?_⟩;have⟨ρ',he,hi',hst⟩:=r;cases he;exact t _ _ _ ⟨ρ',.exit id,hi',hst⟩
 | goto id=>
   refine⟨_,s1,A,fun{ρ F a w} p hw q y t=>ho _ p hw q fun B x w' r=>?_⟩;have⟨ρ',he,hi',hst⟩:=r;cases he;exact t _ _ _ ⟨ρ',.goto id,hi',hst⟩
 | ret=>
   refine⟨_,s1,A,fun{ρ F a w} p hw q y t=>ho _ p hw q fun B x w' r=>?_⟩;have⟨ρ',he,hi',hst⟩:=r;cases he;exact t _ _ _ ⟨ρ',.ret,hi',hst⟩
 | panic v=>
   refine⟨_,s1,A,fun{ρ F a w} p hw q y t=>ho _ p hw q fun B x w' r=>?_⟩;have⟨ρ',he,hi',hst⟩:=r;cases he with|panic hv=>exact t _ _ _ ⟨ρ',.panic hv,hi',hst⟩
def EL.mem'{ρ:Ren}{es es':U V6}(e:EL ρ es es'){x:V6}(p:x∈es):∃l∈es',l.born=x.born:=by
 induction e with|nil=>cases p|cons t r q hv _ ih=>
   rcases K2.1 p with rfl|h
   .exact⟨_,by simp,q⟩
   have⟨l,h1,h2⟩:=ih h;exact⟨l,Kd _ h1,h2⟩
def ZA3{s:Fs}{id:Nat}{o:Oper}{t it m XE clock d:Nat}{es:U V6}{T:U Nat}{v:N}{e:XX}{s2:Fs}(Ym:Nat->Z)
 (hops:ops.toList=o::l) (hop:o.op=.next (.tmp t) false) (hgu:o.guard=none) (hfr:s.fr.at t=(Va it)) (hit:s.h.at it=.iter m clock XE none) (hm:s.h.at m=.map es clock) (hck:clock<=XE) (hborn:Qr clock es=true) (ZGI:V<=it) (htT:t∉T) (hd:o.dst=some d) (hdn:d<n) (hdT:d∈T) (hv:plain v=true)
 (ZkX:∀x∈es,∃ex s3,(s3.ds=s.ds/\(∀t,t∉T->s3.fr.at t=s.fr.at t)/\(ex=.normal/\Ym x.born=false\/ex=.panic v/\Ym x.born=true))/\∀{ρ:Ren}{F:Fence}{a:Act}{w:V4},Inv ρ n {fr:=U6 (Y4 T s.fr) o.dst (.tuple #[.bool true,x.key,x.val]),ds:=s.ds,h:=s.h.put it (.iter m clock clock (some x.born)),wr:=s.wr} a w->s.h.size<=(s.h.put it (.iter m clock clock (some x.born))).size->FR' ρ rd F->∀Q':Exit->Act->V4->Prop,
   (∀I a' w',Qz s.h.size n ρ (s.h.put it (.iter m clock clock (some x.born))) w ex s3 I a' w'->Q' I a' w')->wpListIn F 0 X.P ops (Exit.then (rest.wpIn F 0 X.P Q') Q') l a w)
 (S:(∀x∈es,Ym x.born=false)->e≠.normal/\∀{ρ:Ren}{F:Fence}{a:Act}{w:V4},Inv ρ n {s with fr:=U6 (Y4 T s.fr) o.dst UQ,h:=s.h.put it .dead} a w->V<=(s.h.put it .dead).size->FR' ρ rd F->∀Q':Exit->Act->V4->Prop,
   (∀I a' w',Qz V n ρ (s.h.put it .dead) w e s2 I a' w'->Q' I a' w')->wpListIn F 0 X.P ops (Exit.then (rest.wpIn F 0 X.P Q') Q') l a w)
 (ZmT:(∃x∈es,Ym x.born=true)->e=.panic v/\s2= {s with fr:=Y4 T s.fr,h:=s.h.put it .dead}):Y7 X (.loop (.seq (.region id ops false) rest) n V rd s) (.code e s2):=by
 refine Zrg.2 ⟨e,s2,rfl,fun ρ a0 w0 F ZG D hF=>?_⟩;obtain⟨dd,hdr⟩:∃d,d=it:=⟨_,rfl⟩;have Zum:=D.fr.val t (by rw[hfr];rfl);rw[hfr]at Zum;generalize hpx:a0.tmps.getD t undef=px at Zum;cases Zum with|@ptr _ bi di _ Zfu=>
 have hoi:=D.rel.obj _ _ _ Zfu;rw[hit]at hoi;obtain⟨rfl,bm,ZQX,ZmP,ZBT,_,Zfx⟩:=hoi;have Zfx:=Zfx rfl;subst Zfx;have hom:=D.rel.obj _ _ _ ZmP;rw[hm]at hom;have⟨_,es',ZSU,hes⟩:=hom;have hilt:=D.rel.dom _ _ _ Zfu;have Z3M:=D.rel.dom _ _ _ ZmP;have ZMn:m≠it:=fun z=>by rw[z,hit]at hm;cases hm
 have hold:∀x∈es'.toList,x.born<clock:=by
  intro x hx;have⟨y,hy,_,_,hyb,_⟩:=hes.mem hx;rw[hyb];exact Zb4 hborn y hy
 have ZrD:∀j b d,ρ j=some (b,d)->b=bi->j≠it->((s.h.at j).live=true->False):=by
  intro j b d hj hbb hne' hl;subst hbb;exact hne' (D.rel.inj it j b 0 d Zfu hj (by rw[hit];rfl) hl).symm
 have hbne:bm≠bi:=fun z=>ZrD m bm 0 ZmP z ZMn (by rw[hm];rfl);have Z1i:s.h.size=(s.h.put it .dead).size:=rfl
 have ZkW:∀{a:Act}{w:V4}{K:Act->V4->Prop}{Q:Exit->Act->V4->Prop}{v:N}{w1:V4},a.tmps.getD t undef=(Va bi)->(Instr.next ((Va bi)) false o.type).run X.P w=.ok v w1 ->
  K (a.put o.dst v) w1->(if Region.wanted o (yielded ops a.tmps) then o.wpIn F 0 X.P a w K Q else(∀f,o.about X.P w a.eval=some f->F.fn f)/\K (a.put o.dst undef) w):=by
  intro a w K Q v w1 ht B hK;have hw:Region.wanted o (yielded ops a.tmps)=true:=by unfold Region.wanted;rw[hgu]
  rw[if_pos hw];refine⟨fun f hab=>(by unfold Oper.about at hab;rw[hop]at hab;cases hab),?_⟩;have Zo5:o.semAt F.round a.eval=execOp a.eval o:=Oper.semAt_eq _ _ _ fun c hc=>by rw[hop]at hc;cases hc
  have he:a.eval (.tmp t)=(Va bi):=ht
  have hx:(execOp a.eval o).run X.P w=.ok (.value v) w1:=by
   unfold execOp;rw[hop];simp[he,B]
  rw[Zo5,hx];exact hK
 have Z1f:∀t,t∉T->t≠d:=fun t ht z=>by rw[z]at ht;exact ht hdT
 have Zrw:∀(a:Act)(w:V4),Inv ρ n {s with fr:=Y4 T s.fr,h:=s.h.put it .dead} a w->a.tmps.getD t undef=(Va bi):=by
  intro a w G;have h0:VR ρ ((Y4 T s.fr).at t) (a.tmps.getD t undef):=G.fr.val t (by show X4 ((Y4 T s.fr).at t)=false;rw[Qd,if_neg htT,hfr];rfl);rw[Qd,if_neg htT,hfr]at h0;generalize a.tmps.getD t undef=y at h0;cases h0 with|ptr _ h1=>rw[Zfu]at h1;cases h1;rfl
 have ZBD:(∀x∈es,Ym x.born=false)->∀(a:Act)(w:V4),Inv ρ n {s with fr:=Y4 T s.fr,h:=s.h.put it .dead} a w->Stp V ρ s.h w0 ρ (s.h.put it .dead) w->a.tmps.getD t undef=(Va bi) ->
  (Instr.next ((Va bi)) false o.type).run X.P w=.ok UQ w->LoopIn F 0 X.P (.seq (.region id ops false) rest) (Qz V n ρ s.h w0 e s2) a w:=by
  intro hall a w G C ht B;have⟨hne,S⟩:=S hall;refine UY (wpIn_seq (wpIn_region_list ?_));rw[hops];refine ZkW ht B ?_
  have hio:Inv ρ n {s with fr:=U6 (Y4 T s.fr) o.dst UQ,h:=s.h.put it .dead} (a.put o.dst UQ) w:=by
   refine⟨G.rel,?_,?_⟩;.rw[hd];exact G.fr.set hdn (VR.ZY rfl)
   rw[hd];exact G.ds
  refine S hio ZG hF _ fun e3 a3 w3 hp=>?_;have hp2:=Qz.trans D.rel.lt C hp;have⟨ρ3,hx3,hi3,Jt⟩:=hp2;cases hx3 with|normal=>exact(hne rfl).elim|exit id=>exact⟨ρ3,.exit id,hi3,Jt⟩|goto id=>exact⟨ρ3,.goto id,hi3,Jt⟩|ret=>exact⟨ρ3,.ret,hi3,Jt⟩|panic hv=>exact⟨ρ3,.panic hv,hi3,Jt⟩
 have ZKn:∀seen:V5 Nat,(∀b,seen.contains b=true->Ym b=false)->(leftOf es' seen).size=0->∀x∈es,Ym x.born=false:=by
  intro seen ZiS h00 x hx;have⟨y,hy,hyb⟩:=hes.mem' hx;refine ZiS _ ?_;cases hc:seen.contains x.born with|true=>rfl|false=>
    exfalso;have:y∈leftOf es' seen:=Array.mem_filter.2 ⟨Array.mem_toList_iff.1 hy,by rw[hyb,hc];rfl⟩;rw[Array.eq_empty_of_size_eq_zero h00]at this;simp at this
 have head:∀(k:Nat)(seen:V5 Nat)(last:Nat)(a:Act)(w:V4),(∀b,seen.contains b=true->Ym b=false)->(leftOf es' seen).size<=k->clock<=last->w.heap[bi]? =some (.mapIter (some bm) clock seen last)->w.heap[bm]? =some (.map es' clock) ->
  Inv ρ n {s with fr:=Y4 T s.fr,h:=s.h.put it .dead} a w ->
  Stp V ρ s.h w0 ρ (s.h.put it .dead) w->LoopIn F 0 X.P (.seq (.region id ops false) rest) (Qz V n ρ s.h w0 e s2) a w:=by
  intro k;induction k with
  | zero=>
    intro seen last a w ZiS hk W hblk ZiV G C;have ht:=Zrw a w G;rcases ZjD (P:=X.P) o.type hblk ZiV hold (W) with⟨h00,B⟩|⟨I,he',_⟩
    .exact ZBD (ZKn seen ZiS h00) a w G C ht B
    have:=G6▸List.length_pos_of_mem he';omega
  | succ k ihk=>
    intro seen last a w ZiS hk W hblk ZiV G C;have ht:=Zrw a w G;rcases ZjD (P:=X.P) o.type hblk ZiV hold (W) with⟨h00,B⟩|⟨I,he',w1,hw1,L,B⟩
    .exact ZBD (ZKn seen ZiS h00) a w G C ht B
    have hmem:=(mem_left he').1;have⟨x,hx,hkey,hkp,hbn,hval⟩:=hes.mem hmem;have⟨ex,s3,⟨ZMu,hwr,hpn⟩,hbody⟩:=ZkX x hx;have ZwE:bi<w.heap.size:=(G.rel.dom _ _ _ Zfu).2;have Z1g:bm<w.heap.size:=(G.rel.dom _ _ _ ZmP).2;obtain⟨w2,hw2⟩:∃w2,w2=w1.putObj bi (.mapIter (some bm) clock (seen.push I.born) clock):=⟨_,rfl⟩;rw[<-hw2]at B;have hsz2:w2.heap.size=w.heap.size:=by rw[hw2,World.putObj_size,hw1]
    have E:∀k,k≠bi->w2.heap[k]? =w.heap[k]?:=fun k hk=>by rw[hw2,World.putObj_heap_other hk,hw1]
    have ZBU:w2.heap[bi]? =some (.mapIter (some bm) clock (seen.push I.born) clock):=by rw[hw2];exact World.putObj_heap_same (by rw[hw1];exact ZwE)
    have Zfy:Same w w2:=by rw[hw2];exact⟨L.os,L.tape,L.output⟩
    have hrel:Rel ρ (s.h.put it (.iter m clock clock (some x.born))) w2:=by
     refine Zkr G.rel Zfu ZrD E hsz2 ⟨rfl,bm,seen.push I.born,ZmP,ZBU,fun z hz=>?_,fun z=>by cases z⟩;cases hz;rw[<-hbn];simp
    have hie:Inv ρ n {fr:=U6 (Y4 T s.fr) o.dst (.tuple #[.bool true,x.key,x.val]),ds:=s.ds,h:=s.h.put it (.iter m clock clock (some x.born)),wr:=s.wr} (a.put o.dst (.tuple #[.bool true,I.key,I.val])) w2:=by
     refine⟨hrel,?_,?_⟩;.rw[hd];refine G.fr.set hdn (.tuple _ _ rfl fun j y y' p q=>?_);match j,p,q with|0,p,q=>simp at p q;subst p q;exact .bool true|1,p,q=>simp at p q;subst p q;rw[hkey];exact VR.ZY hkp|2,p,q=>simp at p q;subst p q;exact hval|j+3,p,q=>simp at p
     rw[hd];exact G.ds
    refine UY (wpIn_seq (wpIn_region_list ?_));rw[hops];refine ZkW ht B<|hbody hie Vc hF _ fun e3 a3 w3 hp=>?_;have⟨ρ3,hx3,hi3,Jt⟩:=hp;have⟨q1,q2⟩:=Zew hrel Jt;have Zyy:∀b,b<w2.heap.size->w3.heap[b]? =w2.heap[b]?:=fun b hb=>Jt.frame b hb fun i d hi' e _=>by have:=hrel.lt i _ e;simp at this hi';omega
    have hinv:Inv ρ n {s with fr:=Y4 T s.fr,h:=s.h.put it .dead} a3 w3:=by
     refine⟨?_,⟨hi3.fr.size,fun t r=>?_⟩,?_⟩
     .refine(ZcZ (i:=it) q1).congr rfl fun i=>?_;rw[H.Qt,H.Qt];by_cases hii:i=it/\i<s.h.size;.rw[if_pos hii,if_pos (by simpa using hii)]
      rw[if_neg hii,if_neg (by simpa using hii),H.Qt,if_neg hii]
     .change X4 ((Y4 T s.fr).at t)=false at r;show VR ρ ((Y4 T s.fr).at t) _;rw[Qd]at r ⊢;by_cases ZkU:t∈T;.rw[if_pos ZkU]at r;cases r
      rw[if_neg ZkU]at r ⊢;have h0:=G.fr.val t (by show X4 ((Y4 T s.fr).at t)=false;rw[Qd,if_neg ZkU];exact r);have h0:VR ρ ((Y4 T s.fr).at t) _:=h0;rw[Qd,if_neg ZkU]at h0;have h1:=hi3.fr.val t (by rw[hwr t ZkU];exact r);rw[hwr t ZkU]at h1;exact VR.back Jt.ext h0 h1
     have h0:DsR ρ s.ds a.defers:=G.ds;have h1:=hi3.ds;rw[ZMu]at h1;exact DsR.back Jt.ext h0 h1
    have hstp:Stp V ρ s.h w0 ρ (s.h.put it .dead) w3:=by
     refine⟨Ren.le_refl _,C.size,C.keep,C.own,C.live,Jt.os.trans (Zfy.os.trans C.os),Jt.tape.trans (Zfy.tape.trans C.tape),Jt.output.trans (Zfy.output.trans C.output),
      KK C.XH (by rw[<-hsz2];exact Jt.XH),fun b hb hno=>?_,fun i b d p q=>by rw[p]at q;cases q⟩
     have hbb:b≠bi:=fun z=>by subst z;exact hno it 0 ZGI Zfu (by rw[hit];rfl)
     have:=C.XH;rw[Zyy b Vb,E b hbb,C.frame b hb hno]
    rcases hpn with⟨rfl,hpf⟩|⟨rfl,hpt⟩
    .cases hx3;show LoopIn F 0 X.P _ _ a3 w3
     exact ihk (seen.push I.born) clock a3 w3 (fun b hb=>by
      rw[contains_push]at hb;rcases Bool.or_eq_true_iff.1 hb with z|z
      .exact ZiS b z
      have:b=I.born:=by simpa using z
      rw[this,hbn];exact hpf) (by have:=left_shrinks es' seen I he';omega) Vc (by rw[Zyy bi Vb];exact ZBU) (by rw[Zyy bm Vb,E bm hbne];exact ZiV) hinv hstp
    have⟨he,ZXZ⟩:=ZmT ⟨x,hx,hpt⟩;cases hx3 with|panic hv3=>
      show Qz V n ρ s.h w0 e s2 _ a3 w3;rw[he,ZXZ];have:=VR.Xr hv hv3;subst this;exact⟨ρ,.panic (VR.ZY hv),hinv,hstp⟩
 have ZMd:Stp V ρ s.h w0 ρ (s.h.put it .dead) w0:=by
  have kk:=ZkQ (h:=s.h) (A:=.dead) ZGI (by rw[hit];rfl);exact⟨Ren.le_refl _,K1 _,kk.keep,kk.own,kk.live,rfl,rfl,rfl,K1 _,fun _ _ _=>rfl,fun i b d e I=>by rw[e]at I;cases I⟩
 refine head _ #[] XE a0 w0 (fun b hb=>by simp at hb) Vc hck ZBT ZSU ⟨ZcZ D.rel,⟨D.fr.size,fun t r=>?_⟩,D.ds⟩ ZMd;change X4 ((Y4 T s.fr).at t)=false at r;show VR ρ ((Y4 T s.fr).at t) _;rw[Qd]at r ⊢;by_cases ht:t∈T;.rw[if_pos ht]at r;cases r
 rw[if_neg ht]at r ⊢;exact D.fr.val t r
def Agr(T:U Nat)(fr h:Fr):Prop:=∀t v,T.contains t=false->fr.at t=v->h.at t=v
def Agr.at{T:U Nat}{fr l:Fr}(a:Agr T fr l){t:Nat}{v:N}(p:T.contains t=false)(h:fr.at t=v):l.at t=v:=a t v p h
def MFr(T:U Nat)(fr f:Fr):Prop:=∀t,t∉T->f.at t=fr.at t
def MFr.z{T:U Nat}{fr:Fr}:MFr T fr fr:=fun _ _=>rfl
def MFr.s{T:U Nat}{fr f:Fr}{i:Nat}{v:N}(q:T.contains i=true)(h:MFr T fr f):MFr T fr (Tr.set f i v):=fun t p=>by
 have l:t≠i:=fun z=>p (by subst z;rwa[List.contains_iff_mem]at q)
 have:=ZoB (fr:=f) (d:=some i) (v:=v) (t:=t);rw[show U6 f (some i) v=Tr.set f i v from rfl]at this;rw[this,if_neg (fun z=>l (Oi0 z).symm)];exact h t p
structure Zvr(T:List Nat)(fr:Fr)(ds:List Deferred)(v:Value)(p:Bool)(e:XX)(s:Fs):Prop where
 ds:s.ds=ds
 fr:MFr T fr s.fr
 e:e=.normal/\p=false\/e=.panic v/\p=true
def Zvr.YC{T:U Nat}{fr f:Fr}{ds:U V7}{v:N}{h:H}(k:MFr T fr f):Zvr T fr ds v false .normal ⟨f,ds,h,none⟩:=⟨rfl,k,.inl ⟨rfl,rfl⟩⟩
def Zvr.panic{T:U Nat}{fr f:Fr}{ds:U V7}{v:N}{h:H}(k:MFr T fr f):Zvr T fr ds v true (.panic v) ⟨f,ds,h,none⟩:=⟨rfl,k,.inr ⟨rfl,rfl⟩⟩
structure Zzz(Q:XX->Fs->Prop)(e:XX)(s:Fs):Prop where
 nn:e≠.normal
 k:Q e s
def Zzz.exit{Q:XX->Fs->Prop}{s:Fs}{id:Nat}(k:Q (.exit id) s):Zzz Q (.exit id) s:=⟨(fun z=>by cases z),k⟩
def Zvv{p l:Type}(kv:p->N)(vv:l->N)(h:H)(q:Nat)(x:p×l):Prop:=Zd0 h ((Va q))=some (.tuple #[kv x.1,vv x.2])
section
variable{κ ν:Type}{kv:κ->N}{vv:ν->N}{ll:U (κ×ν)}{bs:U Nat}
def ZkF:∀{ll:U (κ×ν)}{bs:U Nat}{x:V6},x∈Xz kv vv ll bs->∃(j:Nat) (y:κ×ν) (b:Nat),ll[j]? =some y/\bs[j]? =some b/\x=⟨kv y.1,vv y.2,b⟩:=by
 intro ll bs x h;have⟨j,hj⟩:=Gn.1 h;unfold Xz at hj;rw[List.getElem?_zipWith]at hj;cases h1:ll[j]? with|none=>rw[h1]at hj;simp at hj|some y=>
   cases h2:bs[j]? with|none=>rw[h1,h2]at hj;simp at hj|some b=>rw[h1,h2]at hj;simp at hj;exact⟨j,y,b,h1,h2,hj.symm⟩
def Zwk{j:Nat}{y:κ×ν}{b:Nat}(h1:ll[j]? =some y)(h2:bs[j]? =some b):(⟨kv y.1,vv y.2,b⟩:V6)∈Xz kv vv ll bs:=by refine Gn.2 ⟨j,?_⟩;unfold Xz;rw[List.getElem?_zipWith,h1,h2]
def ZiP{b:Nat}:∀{ll:U (κ×ν)}{bs:U Nat},b∉bs->Zaz b (Xz kv vv ll bs)=true
 | [],_,_=>by unfold Xz;simp[Zaz]
 | _::_,[],_=>by unfold Xz;simp[Zaz]
 | x::ll,b'::bs,h=>by
   have ih:=ZiP (ll:=ll) (bs:=bs) (b:=b) (fun z=>h (by simp[z]));unfold Xz at ih ⊢;rw[List.zipWith_cons_cons];unfold Zaz;have:Nat.beq b' b=false:=by rw[GS];intro q;exact h (by simp[Nb0 q])
   dsimp only;rw[this];exact ih
def Zfq{l:Nat}:∀{ll:U (κ×ν)}{bs:U Nat},bs.Nodup->(∀b∈bs,b<l)->Qr l (Xz kv vv ll bs)=true
 | [],_,_,_=>by unfold Xz;simp[Qr]
 | _::_,[],_,_=>by unfold Xz;simp[Qr]
 | x::ll,b::bs,hn,hl=>by
   rw[GA]at hn;have ih:=Zfq (ll:=ll) (bs:=bs) hn.2 (fun b p=>hl b (by simp[p]));have h:Zaz b (Xz kv vv ll bs)=true:=ZiP (ll:=ll) hn.1;unfold Xz at ih h ⊢;rw[List.zipWith_cons_cons];unfold Qr;dsimp only;rw[h,ih];have:Nat.blt b l=true:=by rw[Gd];exact hl b (by simp)
   rw[this];rfl
def ZhM:∀{ll:U (κ×ν)}{bs:U Nat}{j:Nat}{y:κ×ν}{b:Nat},bs.Nodup->ll[j]? =some y->bs[j]? =some b->ZlY b (Xz kv vv ll bs)=some ⟨kv y.1,vv y.2,b⟩
 | [],_,_,_,_,_,h,_=>by simp at h
 | _::_,[],_,_,_,_,_,h=>by simp at h
 | x::ll,b'::bs,j,y,b,hn,h1,h2=>by
   rw[GA]at hn;unfold Xz;rw[List.zipWith_cons_cons];unfold ZlY;dsimp only;cases j with
   | zero=>
     simp at h1 h2;subst h1 h2;rw[Nat.beq_refl];rfl
   | succ j=>
     simp at h1 h2
     have:Nat.beq b' b=false:=by
      rw[GS];intro q;have:=Nb0 q;subst this;exact hn.1 (Gn.2 ⟨j,h2⟩)
     rw[this];exact ZhM hn.2 h1 h2
end
section
variable{V:Nat}{G Gr:U (Ast V)}{h h0:H}{T0:Nat->Prop}{fr:Fr}{ds:U V7}{ty:J}{p:String}{af:V5 Edge}{g:O (Nat×Z)}{κ ν:Type}{kv:κ->N}{vv:ν->N}{ll:U (κ×ν)}{d:Nat}
def WO.rng{Q:XX->Fs->Prop}{t B A:J}{x:V0}{i:Nat}(D:Yg ops ⟨some d,.range t x,ty,p,af,g⟩ fr)(F:Nat.blt d n=true)(I:Sp V T0 h0 G h)(hu:X.P.underlying t=some (.map B A))(C:YI fr x=some (.map (some i)))(s:MapAt kv vv h (some i) ll)
 (k:∀y b bs r,Sp V T0 h0 (ob V b (.iter i r r none)::G) y->y.at i=.map (Xz kv vv ll bs) r->bs.length=ll.length/\bs.Nodup/\(∀x∈bs,x<r)->WO X n V rd ops l ⟨Tr.set fr d ((Va b)),ds,y,none⟩ Q):
 WO X n V rd ops (⟨some d,.range t x,ty,p,af,g⟩::l) ⟨fr,ds,h,none⟩ Q:=by
 rcases s.mem with⟨q,_⟩|⟨S,bs,r,q,h1,h2,L,K⟩
 .cases q
 cases q;refine WO.v (v:=JF h) (E:=.new (.iter i r r none)) (h1:=h.push (.iter i r r none)) D F ?_ (ZpL h rfl) (k (h.push (.iter i r r none)) h.size bs r (Zfo rfl I) ?_ ⟨h2,L,K⟩);.show(match YI fr x with|some x=>vE (Zmh X.P h t x)|none=>none)=_;rw[C];dsimp only;unfold Zmh;simp only[hu,h1];rfl
 rw[KD (Y8 h1 rfl),h1]
def ZsS{x:V0}{l:Nat}{y:κ×ν}(q:YI fr x=some ((Va l)))(he:Zvv kv vv h l y):XM X h (YI fr) ⟨some d,.entry x,ty,p,af,g⟩=some (.val (.tuple #[kv y.1,vv y.2]),.none):=by show(match YI fr x with|some l=>vN (Zd0 h l)|none=>none)=_;rw[q];dsimp only;rw[show Zd0 h ((Va l))=_ from he];rfl
end
end
end Go.ZU
end
end
section
namespace Go.Lf
end Go.Lf
end
section
noncomputable section
namespace Go.ZU
open Go.Lf
section
variable{X:Ctx}{n V:Nat}{rd:O Nat}{ops:V5 Oper}{l:U Oper}{rest:Code}
section
variable{V:Nat}{G Gr:U (Ast V)}{h h0:H}{T0:Nat->Prop}{fr:Fr}{ds:U V7}{κ ν:Type}{kv:κ->N}{vv:ν->N}{ll:U (κ×ν)}{d:Nat}
structure RK(it:Nat)(h h2:H):Prop where
 it_:∃a b c d,h.at it=.iter a b c d
 at_:∀i,i≠it->h2.at i=h.at i
def ZiD.rk{r p:Type}{kv:r->N}{vv:p->N}{t:Nat}{h h2:H}{m:Nat}{l:U (r×p)}(s:ZiD kv vv h.size h (some m) l)(k:RK t h h2):ZiD kv vv h.size h2 (some m) l:=
 ⟨s.at_.keep fun i e=>(by
   cases e;refine k.at_ m fun z=>?_
   have⟨a,b,c,d,e1⟩:=k.it_;rcases s.at_.mem with⟨q,_⟩|⟨j,bs,x,q,h1,_⟩
   .cases q
   cases q;rw[z,e1]at h1;cases h1),s.low⟩
end
end
section
variable{X:Ctx}{n V:Nat}{rd:O Nat}{ops:V5 Oper}{ol:U Oper}{fr:Fr}{ds:U V7}{h h0:H}{ty:J}{p:String}{af:V5 Edge}{g:O (Nat×Z)}{T:Nat->Prop}{G Gr:U (Ast V)}{d l df:Nat}{LO:Xv}{ps:V5 Tmp}{YF bd:Code}
def Xq{l β:Type}{body:l->(l->O β)->O β}(C:l->β->Prop)(p:∀next:l->O β,(∀x r,next x=some r->C x r)->∀x r,body x next=some r->C x r):∀F x r,loop F body x=some r->C x r:=by intro F;induction F with|zero=>intro x r h;cases h|succ F ih=>intro x r h;exact p _ ih x r h
def dne(c:Code):Xv->Xv
 | .loop _ _ fr n h YF p l=>.loop .done (some c) fr n h YF p l
 | A=>A
def lst(b:Z)(c:Code)(A:Xv):Xv:=bif b then dne c A else A
inductive ZxF:XX->Code->Prop
 | ret:ZxF .ret .ret
 | exit (id:Nat):ZxF (.exit id) (.exit id)
structure BdS(n lo l:Nat)(fr:Fr)(ps:Array Tmp)(YF bd:Code)(df:Nat)(R:Bool->H->Prop)(e:XX)(s:Fs):Prop where
 out:s.h.at l=.loop .busy none fr n ps YF bd df/\
  ((e=.normal/\∀h',(lo<=l->Up lo (fun i=>i=l) s.h h')->h'.at l=.loop .ready none fr n ps YF bd df->R true h')\/
   (∃c,ZxF e c/\∀h',(lo<=l->Up lo (fun i=>i=l) s.h h')->h'.at l=.loop .done (some c) fr n ps YF bd df->R false h'))
structure AsS(X:Ctx)(n V lo l:Nat)(fr:Fr)(ps:Array Tmp)(YF bd:Code)(df:Nat)(R:Bool->H->Prop)(e:XX)(s:Fs):Prop where
 out:e=.normal/\s.h.at l=.loop .ready none fr n ps YF bd df/\∀h1,(lo<=l->Up lo (fun i=>i=l) s.h h1)->h1.at l=.loop .busy none fr n ps YF bd df->WC X n V (some l) bd ⟨s.fr,s.ds,h1,s.wr⟩ (BdS n lo l fr ps YF bd df R)
def Zs7.mkS{l:Nat}{args:U N}{fr KJ:Fr}{p:V5 Tmp}{YF q:Code}{x:Nat}{R:Z->H->Prop}(lo:Nat)(D:h.at l=.loop .ready none fr n p YF q x)(hw:V<=l)(t:Nat.beq args.length p.toList.length=true)(G:X7 (p.toList.zip args) n fr=some KJ)
 (k:WC X n V (some l) YF ⟨KJ,[],h,none⟩ (AsS X n V lo l fr p YF q x R)):Zs7 X l args.toArray V h R:=by
 obtain⟨e1,s1,⟨rfl,h1,k1⟩,W⟩:=k;have S:(s1.h.at l).own=true:=by rw[h1];rfl
 have B:=Y8 h1 rfl;obtain⟨P,s2,⟨h2,k2⟩,T⟩:=k1 (s1.h.put l (.loop .busy none fr n p YF q x)) (fun t=>Up.put t S) (Yp B _);have Q:(s2.h.at l).own=true:=by rw[h2];rfl
 have y:=Y8 h2 rfl
 have E:∃b A,R b (s2.h.put l A)/\Je l P s2=some (.fin (.ret (.bool b)) (s2.h.put l A)):=by
  rcases k2 with⟨rfl,k2⟩|⟨c,hx,k2⟩
  ·refine⟨true,_,k2 _ (fun t=>Up.put t Q) (Yp y _),?_⟩;unfold Je;rw[h2]
  refine⟨false,_,k2 _ (fun t=>Up.put t Q) (Yp y _),?_⟩;unfold Je;rw[h2];cases hx<;>rfl
 obtain⟨b,A,hR,L⟩:=E;refine⟨b,s2.h.put l A,hR,?_⟩
 classical
 let ih:WI->O QJ:=fun j=>if j=.code YF n V (some l) ⟨KJ,[],h,none⟩ then some (.code .normal s1) else Jb (.code q n V (some l) {s1 with h:=s1.h.put l (.loop .busy none fr n p YF q x)}) (.code P s2) j
 have HI:∀j r,ih j=some r->Y7 X j r:=by
  intro j r e;dsimp only[ih]at e;split at e
  ·rename_i K;cases e;rw[K];exact W
  exact Xx (X:=X) T j r e
 refine Zbe (C:=cfg X fun _=>false) (ih:=ih) HI ?_;unfold Zg6;rw[D];have I:Nat.beq args.toArray.toList.length p.toList.length=true:=t;dsimp only;rw[Nm0 hw,I];simp only[Bool.and_self,Cq1];have F:X7 (p.toList.zip args.toArray.toList) n fr=some KJ:=G;rw[F];dsimp only;have i1:ih (.code YF n V (some l) {fr:=KJ,ds:=[],h:=h})=some (.code .normal s1):=by dsimp only[ih];rw[if_pos rfl]
 rw[i1];show Kz ih l q n V .normal s1=_;unfold Kz;dsimp only;rw[h1];dsimp only
 have i2:ih (.code q n V (some l) {s1 with h:=s1.h.put l (.loop .busy none fr n p YF q x)})=some (.code P s2):=by
  dsimp only[ih];split
  ·rename_i K;exfalso;injection K with _ _ _ _ G
   have:({s1 with h:=s1.h.put l (.loop .busy none fr n p YF q x)}:Fs).h.at l=h.at l:=by rw[G]
   dsimp only at this;rw[Yp B,D]at this;cases this
  exact Xy _ _
 rw[i2];exact L
def WO.ZWz{Q:XX->Fs->Prop}{A:V0}{xs:V5 V0}{ts:V5 J}{vs:U N}{x:Nat}{B E:Fr}{q t:Code}(L:Yg ops ⟨some d,.call {callee:=.value A,args:=xs,argTypes:=ts},ty,p,af,g⟩ fr)(S:Nat.blt d n=true)(P:YI fr A=some (.func (.yield l) #[] #[]))(F:evs (YI fr) xs.toList=some vs)
 (W:Sp V T h0 G h) (pk:Pk G (ob V l LO) Gr) (y:LO=.loop .ready none B x ps q t df) (C:Nat.beq vs.length ps.toList.length=true) (I:X7 (ps.toList.zip vs) x B=some E)
 (k:WC X x V (some l) q ⟨E,[],h,none⟩ (AsS X x V V l B ps q t df (fun b D=>WO X n V rd ops ol ⟨Tr.set fr d (.bool b),ds,D,none⟩ Q))):
 WO X n V rd ops (⟨some d,.call {callee:=.value A,args:=xs,argTypes:=ts},ty,p,af,g⟩::ol) ⟨fr,ds,h,none⟩ Q:=by
 have⟨h1,h2,h3⟩:=W.get pk;have r:=h1.trans y;exact WO.yld L S P F r (Nb0 C) (Zs7.mkS (lo:=V) r h2 C I k) fun b D K=>K
def AsS.sp{t:Fr}{R:Z->H->Prop}(p:LO=.loop .ready none fr n ps YF bd df)(r:Sp V T h0 G h)(pk:Pk G (ob V l LO) Gr)(k:∀h1,Sp V T h0 (ob V l (bsy LO)::Gr) h1->WC X n V (some l) bd ⟨t,ds,h1,none⟩ (BdS n V l fr ps YF bd df R)):AsS X n V V l fr ps YF bd df R .normal ⟨t,ds,h,none⟩:=by have⟨h1,h2,h3⟩:=r.get pk;refine⟨⟨rfl,h1.trans p,fun x u e=>k x ?_⟩⟩;exact r.one pk (u h2) (fun _ q=>q) ⟨by rw[e,p];rfl,h2,by rw[p];rfl⟩ fun _ q=>.inl q
def BdS.sp{XI:Fr}{R:Z->H->Prop}(hLO:LO=.loop .ready none fr n ps YF bd df)(hS:Sp V T h0 G h)(pk:Pk G (ob V l (bsy LO)) Gr)(k:∀h1,Sp V T h0 (ob V l LO::Gr) h1->R true h1):BdS n V l fr ps YF bd df R .normal ⟨XI,ds,h,none⟩:=by have⟨h1,h2,h3⟩:=hS.get pk;refine⟨⟨h1.trans (by rw[hLO];rfl),.inl ⟨rfl,fun h' u e=>k h' ?_⟩⟩⟩;exact hS.one pk (u h2) (fun _ q=>q) ⟨by rw[e,hLO],h2,by rw[hLO];rfl⟩ fun _ q=>.inl q
def BdS.stop{y:Fr}{R:Z->H->Prop}{e:XX}{c:Code}(t:ZxF e c)(p:LO=.loop .ready none fr n ps YF bd df)(r:Sp V T h0 G h)(pk:Pk G (ob V l (bsy LO)) Gr)(k:∀h1,Sp V T h0 (ob V l (lst true c LO)::Gr) h1->R false h1):BdS n V l fr ps YF bd df R e ⟨y,ds,h,none⟩:=by have⟨h1,h2,h3⟩:=r.get pk;refine⟨⟨h1.trans (by rw[p];rfl),.inr ⟨c,t,fun x u e=>k x ?_⟩⟩⟩;exact r.one pk (u h2) (fun _ q=>q) ⟨by rw[e,p];rfl,h2,by rw[p];rfl⟩ fun _ q=>.inl q
structure RgS(X:Ctx)(V l:Nat)(fr:Fr)(n:Nat)(ps:Array Tmp)(YF bd:Code)(df:Nat)(ds:List Deferred)(Q:XX->Fs->Prop)(h:H):Prop where
 low:V<=l
 k:(h.at l=.loop .ready none fr n ps YF bd df/\∀h',Up V (fun i=>i=l) h h'->Q .normal ⟨fr,⟨.collected df,#[]⟩::ds,h',none⟩)\/
  (∃c,h.at l=.loop .done (some c) fr n ps YF bd df/\∀h',Up V (fun i=>i=l) h h'->WC X n V none c ⟨fr,⟨.collected df,#[]⟩::ds,h',none⟩ Q)
def RgS.sp{Q:XX->Fs->Prop}(q:LO=.loop .ready none fr n ps YF bd df)(r:Sp V T h0 G h)(pk:Pk G (ob V l LO) Gr)(k:∀p,Sp V T h0 Gr p->Q .normal ⟨fr,⟨.collected df,#[]⟩::ds,p,none⟩):RgS X V l fr n ps YF bd df ds Q h:=by have⟨h1,h2,h3⟩:=r.get pk;refine⟨h2,.inl ⟨h1.trans q,fun p u=>k p ?_⟩⟩;exact Sp.step (Ga:=[ob V l LO]) (Gb:=[]) (r.perm pk.perm) u (fun i e=>⟨_,J1.2 rfl,e⟩) ZV.nil fun i ⟨A,m,f⟩=>by simp at m
def RgS.stop{Q:XX->Fs->Prop}{c:Code}(q:LO=.loop .ready none fr n ps YF bd df)(r:Sp V T h0 G h)(pk:Pk G (ob V l (lst true c LO)) Gr)(k:∀p,Sp V T h0 Gr p->WC X n V none c ⟨fr,⟨.collected df,#[]⟩::ds,p,none⟩ Q):RgS X V l fr n ps YF bd df ds Q h:=by have⟨h1,h2,h3⟩:=r.get pk;refine⟨h2,.inr ⟨c,h1.trans (by rw[q];rfl),fun p u=>k p ?_⟩⟩;exact Sp.step (Ga:=[ob V l (lst true c LO)]) (Gb:=[]) (r.perm pk.perm) u (fun i e=>⟨_,J1.2 rfl,e⟩) ZV.nil fun i ⟨A,m,f⟩=>by simp at m
def WC.ZLA{Q:XX->Fs->Prop}{y:V0}{f:V3}{first cap:U N}(hS:Sp V T h0 G h)(L:YI fr y=some (.func (.func f) first.toArray cap.toArray))(F:(X.fns.get f).isSome=true)
 (k:∀P l I W,W=Xv.loop .ready none fr n ps YF bd I->Sp V T h0 (ob V l W::ob V I .deferred::G) P->WR X f (first++([Value.func (.yield l) #[] #[]]++cap)).toArray V P (fun _ h2=>RgS X V l fr n ps YF bd I ds Q h2)):
 WC X n V none (.rangeFunc y ps YF bd) ⟨fr,ds,h,none⟩ Q:=by
 have s1:Sp V T h0 (ob V h.size .deferred::G) (h.push .deferred):=Zfo rfl hS
 have s2:Sp V T h0 (ob V (h.size+1) (.loop .ready none fr n ps YF bd h.size)::ob V h.size .deferred::G) ((h.push .deferred).push (.loop .ready none fr n ps YF bd h.size)):=by
  have:=Zfo (A:=.loop .ready none fr n ps YF bd h.size) rfl s1
  rwa[H.size_push]at this
 obtain⟨fn,F⟩:=GJ.1 F;obtain⟨e,t,⟨v,rfl,B⟩,K⟩:=k _ _ _ _ rfl s2
 have x:U5 (cfg X fun _=>false).X ((h.push .deferred).push (.loop .ready none fr n ps YF bd h.size)) (.func (.func f) first.toArray cap.toArray) [Value.func (.yield (h.size+1)) #[] #[]]=some (.enter f (first++([Value.func (.yield (h.size+1)) #[] #[]]++cap)).toArray,.none):=by
  unfold U5;have:(cfg X fun _=>false).X.fns.get f=some fn:=F;dsimp only;rw[this];simp only[G9]
 rcases B.k with⟨p,D⟩|⟨c,p,D⟩
 ·refine⟨.normal,_,D (t.put (h.size+1) (.loop .exhausted none fr n ps YF bd h.size)) (Up.put B.low (by rw[p];rfl)),?_⟩;refine QU.2 (JK (C:=cfg X fun _=>false) (ih:=Jb (.call f _ V _) (.fin (.ret v) t)) (Xx K) ?_);show QF (cfg X fun _=>false) _ y n V none (h.size+1) ⟨fr,⟨.collected h.size,#[]⟩::ds,(h.push .deferred).push (.loop .ready none fr n ps YF bd h.size),none⟩=_;unfold QF;dsimp only;rw[L];dsimp only;rw[x];dsimp only;unfold Wx;rw[Xy];dsimp only;rw[p]
  rfl
 obtain⟨S,s2,hq,E⟩:=D (t.put (h.size+1) (.loop .exhausted (some c) fr n ps YF bd h.size)) (Up.put B.low (by rw[p];rfl));refine⟨S,s2,hq,?_⟩
 classical
 let ih:WI->O QJ:=fun j=>if j=.code c n V none ⟨fr,⟨.collected h.size,#[]⟩::ds,t.put (h.size+1) (.loop .exhausted (some c) fr n ps YF bd h.size),none⟩ then some (.code S s2) else Jb (.call f (first++([Value.func (.yield (h.size+1)) #[] #[]]++cap)).toArray V ((h.push .deferred).push (.loop .ready none fr n ps YF bd h.size))) (.fin (.ret v) t) j
 have HI:∀j r,ih j=some r->Y7 X j r:=by
  intro j r e;dsimp only[ih]at e;split at e
  ·rename_i q;cases e;rw[q];exact E
  exact Xx (X:=X) K j r e
 refine QU.2 (JK (C:=cfg X fun _=>false) (ih:=ih) HI ?_);show QF (cfg X fun _=>false) _ y n V none (h.size+1) ⟨fr,⟨.collected h.size,#[]⟩::ds,(h.push .deferred).push (.loop .ready none fr n ps YF bd h.size),none⟩=_;unfold QF;dsimp only;rw[L];dsimp only;rw[x];dsimp only;unfold Wx
 have i1:ih (.call f (first++([Value.func (.yield (h.size+1)) #[] #[]]++cap)).toArray V ((h.push .deferred).push (.loop .ready none fr n ps YF bd h.size)))=some (.fin (.ret v) t):=by
  dsimp only[ih];split
  ·rename_i q;cases q
  exact Xy _ _
 rw[i1];dsimp only;rw[p];show ih (.code c n V none _)=_;dsimp only[ih];rw[if_pos rfl]
structure JnP{α β:Type}(I:α->Fs->Prop)(j:α->Option β)(r:β)(Q:XX->Fs->Prop)(e:XX)(s:Fs):Prop where
 out:(e=.normal/\∃x,j x=some r/\I x s)\/(e≠.normal/\Q e s)
def JnP.YC{l β:Type}{I:l->Fs->Prop}{j:l->O β}{r:β}{Q:XX->Fs->Prop}{s:Fs}(x:l)(h:j x=some r)(i:I x s):JnP I j r Q .normal s:=⟨.inl ⟨rfl,x,h,i⟩⟩
def JnP.pass{l β:Type}{I:l->Fs->Prop}{j:l->O β}{r:β}{Q:XX->Fs->Prop}{e:XX}{s:Fs}(h:e≠.normal)(q:Q e s):JnP I j r Q e s:=⟨.inr ⟨h,q⟩⟩
def WC.jnP{Q:XX->Fs->Prop}{c:Code}{s:Fs}{l β:Type}{r:β}(I:l->Fs->Prop)(j:l->O β)(k:∀x h,j x=some r->I x h->Q .normal h)(p:WC X n V rd c s (JnP I j r Q)):WC X n V rd c s Q:=
 p.mono fun e h ⟨q⟩=>by
   rcases q with⟨q,x,h1,h2⟩|⟨_,q⟩
   .rw[q];exact k x h h1 h2
   exact q
def ZcT{l q:Type}[DecidableEq l]{kv:l->N}{vv:q->N}{r A:J}{i:Nat}{ll:U (l×q)}{t:J}{x y z:V0}{k:l}{v:q}(E:Sp V T h0 G h)(pk:Pk G (mp V kv vv (some i) ll) Gr)(K:Zd2 X.P r kv)(hu:X.P.underlying t=some (.map r A))(D:YI fr x=some (.map (some i)))(C:YI fr y=some (kv k))(B:YI fr z=some (vv v)):
 HU X V ⟨none,.insert t x y z,ty,p,af,g⟩ fr h (fun j=>j=i) (fun F=>Sp V T h0 (mp V kv vv (some i) (Yu ll k v)::Gr) F):=
 Kn (ty:=ty) (p:=p) (af:=af) (g:=g) E pk K hu D C B
section
variable{sf:ST}{m:Nat}
def WX.QX{Q:Fr->H->Prop}{o:Oper}{c:Z}(_:Ze ops o fr c)(h1:c=true->WX X n V rd ops sf m h (o::ol) fr Q)(h2:c=false->WX X n V rd ops sf m h (o::ol) fr Q):WX X n V rd ops sf m h (o::ol) fr Q:=by
 cases c;.exact h2 rfl
 exact h1 rfl
def Sp.djs{t:Nat->Prop}{G Ga Gr:U (Ast V)}{B:Ast V}(s:Sp V t h0 G h)(p:Sel G (B::Ga) Gr):∀x,QA Ga x->¬ B.fp x:=fun x ⟨A,l,r⟩ q=>
 (GV.1 (s.Zac p).dis).1 A l x q r
inductive Lk(ops:Array Oper)(m:Nat)(R:Nat->Prop):List (Nat×(Nat->Prop))->Prop
 | n:Lk ops m R []
 | o {q:Nat×(Nat->Prop)} {r:List (Nat×(Nat->Prop))} (h:comp (J2 ops.toList 0 []) q.1 m=true):Lk ops m R r->Lk ops m R (q::r)
 | d {q:Nat×(Nat->Prop)} {r:List (Nat×(Nat->Prop))} (h:∀x,q.2 x->¬ R x):Lk ops m R r->Lk ops m R (q::r)
def Lk.get{R:Nat->Prop}{r:U (Nat×(Nat->Prop))}(h:Lk ops m R r):∀q∈r,Cmp ops q.1 m\/∀x,q.2 x->¬ R x:=by
 induction h with
 | n=>intro q l;simp at l
 | o h1 _ ih=>intro q l;rcases K2.1 l with z|z
              .subst z;exact .inl h1
              exact ih q z
 | d h1 _ ih=>intro q l;rcases K2.1 l with z|z
              .subst z;exact .inr h1
              exact ih q z
def WX.wrM{Q:Fr->H->Prop}{F:Nat->Prop}{G:U (Ast V)}{A:Op}{v:N}(R:Nat->Prop)(W:Sp V F h0 G h)(K:Yg ops ⟨some d,A,ty,p,af,g⟩ fr)(L:Nat.blt d n=true)(S:∀D:H,D.size=h.size->(∀x,R x->D.at x=h.at x)->XM X D (YI fr) ⟨some d,A,ty,p,af,g⟩=some (.val v,.none))
 (k:∀B,B.size=h.size->Sp V F h0 G B->WX X n V rd ops ⟨(m,fun x=>¬ R x)::sf.s,sf.m,sf.p⟩ (m+1) B ol (Tr.set fr d v) Q) (E:YD ⟨some d,A,ty,p,af,g⟩=false) (hM:Lk ops m R sf.m):
 WX X n V rd ops sf m h (⟨some d,A,ty,p,af,g⟩::ol) fr Q:=by
 have r:(QW (XV h R) h (mask (XV h R) h)).size=h.size:=by rw[Qv,Yf]
 have t:∀x,¬ R x->VV h (QW (XV h R) h (mask (XV h R) h)) (XV h R) x:=fun x l=>by
  rcases Gq x h.size with z|z
  .exact .inl ⟨z,ZbS.2 ⟨z,l⟩⟩
  exact .inr (by rw[r];exact z)
 refine⟨fun P=>WE.cons (T:=fun _=>False) (xs0:=XV h R) (h2:=QW (XV h R) h (mask (XV h R) h)) (v:=v) [(m,fun x=>¬ R x)] [] none ?_ (fun q y=>?_) (fun _ z=>z.elim) (fun _ z=>z.elim) (fun E q y=>(hM.get q y).imp id fun z x l=>t x (z x l)) (fun x j C z=>by cases z) ((k _ r (W.up (Up.hide V _ h))).out fun q y x l=>by rw[r];exact P q y x l)⟩
 .have:=ZcO (V:=V) (rd:=rd) K (.inl (S _ (Yf _ _) fun x l=>ZBS l)) (h1:=mask (XV h R) h) rfl;have I:(fun x:Nat=>Eff.tgt Eff.none=some x)=fun _=>False:=by funext x;simp[Eff.tgt]
  rw[I]at this;exact⟨fun hw=>⟨_,rfl,this.1,this.2.1 (by rw[Yf];exact hw)⟩,fun _ z=>z.elim,fun d' e=>(by cases e;rwa[Gd]at L),fun q=>Bool.noConfusion (E.symm.trans q),fun _ z=>z.elim⟩
 rw[J1.1 y];exact⟨rfl,fun x l=>t x l⟩
def WX.Xm{Q:Fr->H->Prop}{l:Op}{c:Z}(q:Ze ops ⟨some d,l,ty,p,af,g⟩ fr c)(t:c=false)(r:Nat.blt d n=true)(k:WX X n V rd ops sf (m+1) h ol (Tr.set fr d undef) Q)(x:okM ops sf m ⟨some d,l,ty,p,af,g⟩=true):WX X n V rd ops sf m h (⟨some d,l,ty,p,af,g⟩::ol) fr Q:=WX.off (q.off t) r k x
end
def ZID{β:Type}{b:Z}{x:O β}{r:β}(h:(bif b then none else x)=some r):b=false/\x=some r:=by
 cases b;.exact⟨rfl,h⟩
 cases h
def Zu5(b:Z):b=true\/b=false:=by cases b<;>simp
end
end Go.ZU
end
end
