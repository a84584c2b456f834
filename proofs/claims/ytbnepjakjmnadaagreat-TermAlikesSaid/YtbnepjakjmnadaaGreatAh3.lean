/- Part 3. -/
import GoSem.Core.View
import GoSem.Op.String
import Derived.Test.YtbnepjakjmnadaaGreatAh2
set_option linter.all false
set_option maxHeartbeats 2000000
namespace Go.Lf
def loop{h β:Type}:Nat->(h->(h->O β)->O β)->h->O β
 | 0,_,_=>none
 | F+1,body,a=>body a (loop F body)
def ZV{h β:Type}(F:Nat)(body:h->(h->O β)->O β)(a:h):loop (F+1) body a=body a (loop F body):=rfl
def Z7{α:Type}(l:U α)(k:Int):O α:=bif decide (0<=k) then l[k.toNat]? else none
def ZdQ{h:Type}(l:U h)(k:Nat):Z7 l (k:Int)=l[k]?:=by simp[Z7]
def ZiZ{m:Type}{l:U m}{k:Int}{x:m}(h:Z7 l k=some x):(k.toNat:Int)=k/\k.toNat<l.length/\l[k.toNat]? =some x:=by
 unfold Z7 at h;by_cases p:0<=k;.rw[decide_eq_true p,Cq1]at h;exact⟨by omega,(Li0 h).1,h⟩
 rw[decide_eq_false p,Cq0]at h;cases h
def Xa(n:Int):Int:=Go.IntKind.i64.wrap n
def Ky{n:Int}(h1:-9223372036854775808<=n)(h2:n<=9223372036854775807):Xa n=n:=by
 unfold Xa Go.IntKind.wrap;have p:(2 ^ IntKind.i64.bits:Int)=18446744073709551616:=by decide
 have m:(2 ^ (IntKind.i64.bits-1):Int)=9223372036854775808:=by decide
 have l:IntKind.i64.signed=true:=rfl;rw[p,m,l];dsimp only;split;next h=>simp at h;omega
 rename_i h;simp at h;omega
def ZvO(a b:Int):O Int:=bif b==0 then none else some (Xa (a.tdiv b))
def ZvM(a b:Int):O Int:=bif b==0 then none else some (a.tmod b)
def Zz6{a b c:Int}(h:ZvO a b=some c):b≠0/\c=Xa (a.tdiv b):=by unfold ZvO at h;cases e:b==0 with|true=>rw[e]at h;cases h|false=>rw[e]at h;cases h;exact⟨by simpa using e,rfl⟩
def Zz4{a b c:Int}(h:ZvM a b=some c):b≠0/\c=a.tmod b:=by unfold ZvM at h;cases e:b==0 with|true=>rw[e]at h;cases h|false=>rw[e]at h;cases h;exact⟨by simpa using e,rfl⟩
def slL{l:Type}(xs:U l)(lo h:Int):O (U l):=bif decide (0<=lo)&&(decide (lo<=h)&&decide (h<=xs.length)) then some ((xs.take h.toNat).drop lo.toNat) else none
def gd{α:Type}(g:Z)(m:O α)(d:α):O α:=bif g then m else some d
def ZcG{h:Type}(m:O h)(d:h):gd true m d=m:=rfl
def ZEo{h:Type}(m:O h)(d:h):gd false m d=some d:=rfl
def app{h:Type}(by_:Nat)(xs ys:U h):O (U h):=bif Nat.ble ((2*(xs.length+ys.length)+1000)*by_) (2 ^ 47) then some (xs++ys) else none
def Zxf{l:Type}{by_:Nat}{xs ys:U l}(h:(2*(xs.length+ys.length)+1000)*by_<=2 ^ 47):app by_ xs ys=some (xs++ys):=by unfold app;rw[Nm0 h];rfl
def ZFU{p:Type}{by_:Nat}{xs ys l:U p}(h:app by_ xs ys=some l):l=xs++ys/\(2*(xs.length+ys.length)+1000)*by_<=2 ^ 47:=by
 unfold app at h;cases m:Nat.ble ((2*(xs.length+ys.length)+1000)*by_) (2 ^ 47)<;>rw[m]at h;.cases h
 cases h;exact⟨rfl,Nl0 m⟩
def bS{l β:Type}{m:O l}{f:l->O β}{r:β}(h:m.bind f=some r):∃x,m=some x/\f x=some r:=Option.bind_eq_some_iff.1 h
def YS{l β:Type}{g:Z}{m:O l}{d:l}{f:l->O β}{r:β}(h:(gd g m d).bind f=some r):∃x,(g=true->m=some x)/\f x=some r:=by have⟨x,h1,h2⟩:=bS h;refine⟨x,fun p=>?_,h2⟩;subst p;exact h1
def Qf{l:Type}{c:Z}{a b r:l}(m:c=true)(h:(bif c then a else b)=r):a=r:=by subst m;exact h
def Qg{l:Type}{c:Z}{a b r:l}(m:c=false)(h:(bif c then a else b)=r):b=r:=by subst m;exact h
def Yt{h m:Type}[DecidableEq h]:U (h×m)->h->O (Nat×m)
 | [],_=>none
 | p::l,k=>if p.1=k then some (0,p.2) else(Yt l k).map fun q=>(q.1+1,q.2)
def ZQ{h ν:Type}[DecidableEq h](l:U (h×ν))(k:h):O ν:=(Yt l k).map (·.2)
def Xh{h m:Type}[DecidableEq h](l:U (h×m))(k:h)(x:m):U (h×m):=match Yt l k with
 | some q=>l.modify q.1 fun p=>(p.1,x)
 | none=>l++[(k,x)]
def Zkq{h ν:Type}[DecidableEq h](l:U (h×ν))(k:h)(z:ν):O ν:=some ((ZQ l k).getD z)
def ZCs{m h:Type}[DecidableEq m](l:U (m×h))(k:m)(z:h):O (h×Z):=some ((ZQ l k).getD z,(ZQ l k).isSome)
section
variable{κ ν:Type}[DecidableEq κ]
theorem Zcy{l:U (κ×ν)}{k:κ}{q:Nat×ν}(h:Yt l k=some q):l[q.1]? =some (k,q.2):=by
 induction l generalizing q with|nil=>cases h|cons p l ih=>
   unfold Yt at h;split at h;next e=>cases h;simp[<-e]
   cases e:Yt l k with|none=>rw[e]at h;cases h|some m=>rw[e]at h;cases h;simpa using ih e
theorem Zf5{l:U (κ×ν)}{k:κ}:Yt l k=none↔∀p∈l,p.1≠k:=by
 induction l with|nil=>simp[Yt]|cons p l ih=>
   unfold Yt;split;next e=>simp[e]
   rename_i e;simp[e,ih]
theorem Zcz{l m:U (κ×ν)}{k:κ}(h:Yt l k=none):Yt (l++m) k=(Yt m k).map fun q=>(q.1+l.length,q.2):=by
 induction l with|nil=>cases e:Yt m k<;>simp[e]|cons p l ih=>
   rw[Zf5]at h;have h1:p.1≠k:=h p Vd;have h2:Yt l k=none:=Zf5.2 fun q r=>h q (by simp[r]);rw[Gx,Yt,if_neg h1,ih h2];cases e:Yt m k with|none=>rfl|some q=>simp[GI]
theorem Zbw{l r:U (κ×ν)}{k:κ}{q:Nat×ν}(h:Yt l k=some q):Yt (l++r) k=some q:=by
 induction l generalizing q with|nil=>cases h|cons p l ih=>
   rw[Gx];unfold Yt at h ⊢;split;next e=>rw[if_pos e]at h;exact h
   rename_i e;rw[if_neg e]at h;cases m:Yt l k with|none=>rw[m]at h;cases h|some t=>rw[m]at h;rw[ih m];exact h
theorem KE{l m:U (κ×ν)}{k:κ}(h:ZQ l k=none):ZQ (l++m) k=ZQ m k:=by
 unfold ZQ at h ⊢
 have h1:Yt l k=none:=by
  cases e:Yt l k with|none=>rfl|some q=>rw[e]at h;cases h
 rw[Zcz h1];cases Yt m k<;>rfl
theorem Zb2{l m:U (κ×ν)}{k:κ}{v:ν}(h:ZQ l k=some v):ZQ (l++m) k=some v:=by unfold ZQ at h ⊢;cases e:Yt l k with|none=>rw[e]at h;cases h|some q=>rw[e]at h;rw[Zbw e];exact h
theorem Zqv{l:U (κ×ν)}{k m:κ}{q:Nat×ν}{x:ν}(h:Yt l k=some q):(Yt (l.modify q.1 fun p=>(p.1,x)) m).map (·.2)=if m=k then some x else(Yt l m).map (·.2):=by
 induction l generalizing q with|nil=>cases h|cons p l ih=>
   unfold Yt at h;split at h
   .rename_i e;cases h;simp[List.modify_zero_cons];unfold Yt;rw[e];by_cases t:k=m;.subst t;simp
    rw[if_neg t,if_neg t,if_neg (fun z=>t z.symm)]
   rename_i e;cases y:Yt l k with|none=>rw[y]at h;cases h|some A=>
     rw[y]at h;cases h;have:=ih y;simp[List.modify_succ_cons];unfold Yt;by_cases r:p.1=m;.rw[if_pos r,if_pos r];have:¬ m=k:=fun z=>e (r.trans z);rw[if_neg this]
     rw[if_neg r,if_neg r,Option.map_map,Option.map_map];exact this
theorem ZaN(l:U (κ×ν))(k k':κ)(x:ν):ZQ (Xh l k x) k'=if k'=k then some x else ZQ l k':=by
 unfold Xh ZQ;cases e:Yt l k with|some q=>exact Zqv e|none=>
   by_cases h:k'=k;.subst h;rw[if_pos rfl,Zcz e];simp[Yt]
   rw[if_neg h];cases m:Yt l k' with|some q=>rw[Zbw m]|none=>
     rw[Zcz m];have:Yt [(k,x)] k'=none:=by simp[Yt];exact fun z=>h z.symm
     rw[this];rfl
end
inductive PR(β:Type) where
 | ok (b:β)
 | Yq (k:Int)
def UJ{h β:Type}(x:PR h)(p:Int->O β)(k:h->O β):O β:=match x with|.ok y=>k y|.Yq e=>p e
def opt{h β:Type}(x:O h)(p:O β)(k:h->O β):O β:=match x with|some y=>k y|none=>p
def ZoZ{l h:Type}(b:l->h->O Z):U (l×h)->O Z
 | []=>some false
 | x::r=>(b x.1 x.2).bind fun p=>(ZoZ b r).bind fun q=>some (p||q)
def ZlG{B A:Type}{b:B->A->O Z}:∀{l:U (B×A)}{q:Z},ZoZ b l=some q->(∀x∈l,∃p,b x.1 x.2=some p)/\(q=true↔∃x∈l,b x.1 x.2=some true)
 | [],q,h=>by cases h;simp
 | x::r,q,h=>by
   have⟨p,h1,h⟩:=bS h;have⟨q',h2,h⟩:=bS h;cases h;have⟨i1,i2⟩:=ZlG h2;refine⟨fun y t=>?_,?_⟩
   .rcases Ks.1 t with z|z
    .subst z;exact⟨p,h1⟩
    exact i1 y z
   rw[GM,i2]
   constructor
   .rintro(z|⟨y,t,m⟩)
    .exact⟨x,by simp,by rw[h1,z]⟩
    exact⟨y,by simp[t],m⟩
   rintro⟨y,t,m⟩;rcases Ks.1 t with z|z
   .subst z;rw[h1]at m;left;exact Oi0 m
   exact .inr ⟨y,z,m⟩
end Go.Lf
section
noncomputable section
namespace Go.Z9
open Go.Lf
section
structure Fz(L:Nat)(h h':H):Prop where
 size:h.size<=h'.size
 keep:∀i cs own z,h.at i=.row cs own z->(i<L\/own=false)->h'.at i=.row cs own z
 low:∀i,i<L->i<h.size->h'.at i=h.at i
def Fz.refl(L:Nat)(h:H):Fz L h h:=⟨K2 _,fun _ _ _ _ e _=>e,fun _ _ _=>rfl⟩
def Fz.trans{L:Nat}{a b c:H}(x:Fz L a b)(y:Fz L b c):Fz L a c:=
 ⟨KK x.size y.size,fun i cs own z e s=>y.keep i cs own z (x.keep i cs own z e s) s,fun i h1 h2=>(y.low i h1 (J1 h2 x.size)).trans (x.low i h1 h2)⟩
structure Up(lo:Nat)(t:Nat->Prop)(h h':H):Prop where
 size:h.size<=h'.size
 keep:∀i,i<h.size->¬ t i->h'.at i=h.at i
 own:∀i,t i->lo<=i/\(h.at i).own=true
def Up.fz{lo L:Nat}{t:Nat->Prop}{h h':H}(u:Up lo t h h')(hw:L<=lo):Fz L h h':=by
 refine⟨u.size,fun i cs own z e s=>?_,fun i h1 h2=>u.keep i h2 fun l=>by have:=(u.own i l).1;omega⟩;rw[u.keep i (X4 e rfl) ?_,e];intro l;have⟨h1,h2⟩:=u.own i l;rw[e]at h2;rcases s with s|s
 .omega
 subst s;cases h2
def Up.ZHv{h h':H}(lo:Nat)(g:Grow h h'):Up lo (fun _=>False) h h':=⟨g.size,fun i l _=>g.keep i l,fun _ e=>e.elim⟩
def Up.push(lo:Nat)(h:H)(A:YN):Up lo (fun _=>False) h (h.push A):=Up.ZHv lo ((Grow.refl h).push A)
def Up.put{lo:Nat}{h:H}{b:Nat}{A:YN}(m:lo<=b)(l:(h.at b).own=true):Up lo (fun i=>i=b) h (h.put b A):=
 ⟨K2 _,fun i _ hn=>XE hn A,fun i e=>by subst e;exact⟨m,l⟩⟩
def At(h:H)(b o:Nat)(vs:U N):Prop:=∃cs own z,h.at b=.row cs own z/\(cs.drop o).take vs.length=vs/\o+vs.length<=cs.length
def Stb(L:Nat)(h:H)(b:Nat):Prop:=b<L\/(h.at b).own=false
def At.box{h:H}{b:Nat}{vs:U N}{own:Z}{z:Nat}(l:h.at b=.row vs own z):At h b 0 vs:=⟨vs,own,z,l,by simp,by omega⟩
def At.fz{L:Nat}{h l:H}{b o:Nat}{vs:U N}(f:Fz L h l)(s:Stb L h b)(a:At h b o vs):At l b o vs:=by have⟨cs,own,z,h1,h2,h3⟩:=a;exact⟨cs,own,z,f.keep _ _ _ _ h1 (s.imp id fun e=>by rw[h1]at e;exact e),h2,h3⟩
def At.cell{h:H}{b o j:Nat}{vs:U N}{v:N}(a:At h b o vs)(hv:vs[j]? =some v):∃cs own z,h.at b=.row cs own z/\cs[o+j]? =some v:=by have⟨cs,own,z,h1,h2,h3⟩:=a;refine⟨cs,own,z,h1,?_⟩;have l:=(Li0 hv).1;rw[<-h2,List.getElem?_take_of_lt l,GS]at hv;exact hv
def At.part{h:H}{b o j n:Nat}{vs ws:U N}(a:At h b o vs)(l:j+n<=vs.length)(hw:(vs.drop j).take n=ws):∃cs own z,h.at b=.row cs own z/\o+j+n<=cs.length/\(cs.drop (o+j)).take n=ws:=by have⟨cs,own,z,h1,h2,h3⟩:=a;refine⟨cs,own,z,h1,by omega,?_⟩;rw[<-hw,<-h2,List.drop_take,List.take_take,List.drop_drop];have e:min n (vs.length-j)=n:=V6;rw[e]
structure WG(α:Type) where
 sz:Nat
 pos:0<sz
 Par:Type
 dflt:Par
 sh:Par->α->List Value
 len:∀p x,(sh p x).length=sz
 one:∀p x,(sh p x).all Value.oneCell'=true
 F:Nat->H->Par->α->Prop
 mono:∀{L h h' p x},Fz L h h'->F L h p x->F L h' p x
 up:∀{L wm' h p x},L<=wm'->F L h p x->F wm' h p x
def Zes(a:O Addr)(c:Nat):Prop:=(a=none/\c=0)\/(a=some ⟨0,0,some 0⟩/\c=0)\/∃i o,a=some ⟨i,o,none⟩
structure JL{α:Type}(e:WG α)(L:Nat)(h:H)(cs:List Value)(o:Nat)(xs:List α):Prop where
 len:o+xs.length*e.sz<=cs.length
 get:∀k x,xs[k]? =some x->∃q,(cs.drop (o+k*e.sz)).take e.sz=e.sh q x/\e.F L h q x
def JL.mono{l:Type}{e:WG l}{L:Nat}{h m:H}{cs:U N}{o:Nat}{xs:U l}(f:Fz L h m)(a:JL e L h cs o xs):JL e L m cs o xs:=
 ⟨a.len,fun k x p=>let⟨q,h1,h2⟩:=a.get k x p;⟨q,h1,e.mono f h2⟩⟩
def JL.up{m:Type}{e:WG m}{L l:Nat}{h:H}{cs:U N}{o:Nat}{xs:U m}(f:L<=l)(a:JL e L h cs o xs):JL e l h cs o xs:=
 ⟨a.len,fun k x p=>let⟨q,h1,h2⟩:=a.get k x p;⟨q,h1,e.up f h2⟩⟩
structure Src{α:Type}(e:WG α)(L:Nat)(h:H)(a:Option Addr)(c:Nat)(xs:List α):Prop where
 max:xs.length<=9223372036854775807
 cap:xs.length<=c / 2
 nl:Zes a c
 mem:xs=[]\/∃i o cs own z,a=some ⟨i,o,none⟩/\h.at i=.row cs own z/\JL e L h cs o xs
structure Sl{α:Type}(e:WG α)(L:Nat)(h:H)(a:Option Addr)(c:Nat)(xs:List α):Prop where
 max:xs.length<=9223372036854775807
 cap:xs.length<=c / 2
 nl:Zes a c
 mem:xs=[]\/∃i o cs own z,a=some ⟨i,o,none⟩/\h.at i=.row cs own z/\(i<L\/own=false)/\JL e L h cs o xs
structure Ko{α:Type}(e:WG α)(L lo:Nat)(h:H)(a:Option Addr)(c:Nat)(xs:List α):Prop where
 max:xs.length<=9223372036854775807
 mem:(a=none/\c=0/\xs=[])\/∃i o cs,a=some ⟨i,o,none⟩/\lo<=i/\h.at i=.row cs true e.sz/\xs.length<=c / 2/\o+(c / 2)*e.sz<=cs.length/\JL e L h cs o xs
variable{α:Type}{e:WG α}{L wm' lo:Nat}{h h':H}{a:O Addr}{c:Nat}{xs:U α}
def Sl.src(s:Sl e L h a c xs):Src e L h a c xs:=⟨s.max,s.cap,s.nl,s.mem.imp id fun⟨i,o,cs,own,z,h1,h2,_,l⟩=>⟨i,o,cs,own,z,h1,h2,l⟩⟩
def Ko.nl(s:Ko e L lo h a c xs):Zes a c:=by
 rcases s.mem with⟨h1,h2,_⟩|⟨i,o,cs,h1,_⟩
 .exact .inl ⟨h1,h2⟩
 exact .inr (.inr ⟨i,o,h1⟩)
def Ko.cap(s:Ko e L lo h a c xs):xs.length<=c / 2:=by
 rcases s.mem with⟨_,_,l⟩|⟨i,o,cs,h1,_,l,m,_⟩
 .subst l;exact Gq _
 exact m
def Ko.src(s:Ko e L lo h a c xs):Src e L h a c xs:=⟨s.max,s.cap,s.nl,by
 rcases s.mem with⟨_,_,l⟩|⟨i,o,cs,h1,_,l,_,_,m⟩
 .exact .inl l
 exact .inr ⟨i,o,cs,true,_,h1,l,m⟩⟩
def Sl.mono(f:Fz L h h')(s:Sl e L h a c xs):Sl e L h' a c xs:=⟨s.max,s.cap,s.nl,s.mem.imp id fun⟨i,o,cs,own,z,h1,h2,l,m⟩=>⟨i,o,cs,own,z,h1,f.keep _ _ _ _ h2 l,l,m.mono f⟩⟩
def Sl.up(f:L<=wm')(s:Sl e L h a c xs):Sl e wm' h a c xs:=⟨s.max,s.cap,s.nl,s.mem.imp id fun⟨i,o,cs,own,z,h1,h2,m,l⟩=>⟨i,o,cs,own,z,h1,h2,m.imp (fun x=>by omega) id,l.up f⟩⟩
def Src.sl(s:Src e L h a c xs)(hw:L<=h.size):Sl e h.size h a c xs:=⟨s.max,s.cap,s.nl,s.mem.imp id fun⟨i,o,cs,own,z,h1,h2,l⟩=>⟨i,o,cs,own,z,h1,h2,.inl (X4 h2 rfl),l.up hw⟩⟩
def Sl.nil:Sl e L h none 0 ([]:U α):=⟨by simp,by simp,.inl ⟨rfl,rfl⟩,.inl rfl⟩
def Ko.nil:Ko e L lo h none 0 ([]:U α):=⟨by simp,.inl ⟨rfl,rfl,rfl⟩⟩
def Um(a:O Addr)(i:Nat):Prop:=∃o,a=some ⟨i,o,none⟩
def Src.at_{k:Int}{x:α}(s:Src e L h a c xs)(l:Z7 xs k=some x):∃i o q,a=some ⟨i,o,none⟩/\At h i (o+k.toNat*e.sz) (e.sh q x)/\e.F L h q x:=by
 have⟨h1,h2,h3⟩:=ZiZ l;rcases s.mem with z|⟨i,o,cs,own,z,q1,q2,q3⟩
 .subst z;simp at h2
 have⟨q,g1,g2⟩:=q3.get _ _ h3;refine⟨i,o,q,q1,⟨cs,own,z,q2,by rw[e.len];exact g1,?_⟩,g2⟩;rw[e.len];have:=q3.len;have:(k.toNat+1)*e.sz<=xs.length*e.sz:=GP _ h2;rw[Nat.succ_mul]at this;omega
def Sl.at_{k:Int}{x:α}(s:Sl e L h a c xs)(l:Z7 xs k=some x):∃i o q,a=some ⟨i,o,none⟩/\At h i (o+k.toNat*e.sz) (e.sh q x)/\Stb L h i/\e.F L h q x:=by
 have⟨h1,h2,h3⟩:=ZiZ l;rcases s.mem with z|⟨i,o,cs,own,z,q1,q2,q4,q3⟩
 .subst z;simp at h2
 have⟨q,g1,g2⟩:=q3.get _ _ h3;refine⟨i,o,q,q1,⟨cs,own,z,q2,by rw[e.len];exact g1,?_⟩,q4.imp id (fun z=>by rw[q2];exact z),g2⟩;rw[e.len];have:=q3.len;have:(k.toNat+1)*e.sz<=xs.length*e.sz:=GP _ h2;rw[Nat.succ_mul]at this;omega
def QL(k:IntKind):WG Int where
 sz:=1
 pos:=Nat.one_pos
 Par:=Unit
 dflt:=()
 sh:=fun _ x=>[.int k x]
 len:=fun _ _=>rfl
 one:=fun _ _=>rfl
 F:=fun _ _ _ _=>True
 mono:=fun _ x=>x
 up:=fun _ x=>x
def Zq:WG Y where
 sz:=1
 pos:=Nat.one_pos
 Par:=Unit
 dflt:=()
 sh:=fun _ x=>[.string x]
 len:=fun _ _=>rfl
 one:=fun _ _=>rfl
 F:=fun _ _ _ _=>True
 mono:=fun _ x=>x
 up:=fun _ x=>x
def Yz{l:Type}(e:WG l):WG (U l) where
 sz:=1
 pos:=Nat.one_pos
 Par:=O Addr×Nat
 dflt:=(none,0)
 sh:=fun p x=>[.slice p.1 x.length p.2]
 len:=fun _ _=>rfl
 one:=fun _ _=>rfl
 F:=fun L h p x=>Sl e L h p.1 p.2 x
 mono:=fun f x=>x.mono f
 up:=fun f x=>x.up f
end
section
variable{X:Ctx}{n L:Nat}{rd:O Nat}{s:Fs}{Q:XX->Fs->Prop}
def ZZS(fr:Fr)(d:Nat)(v:N):Fr.at (Tr.set fr d v) d=v:=by rw[at_set,if_pos rfl]
def Zm{fr:Fr}{d t:Nat}{v w:N}(hn:Nat.beq t d=false)(k:Fr.at fr t=v):Fr.at (Tr.set fr d w) t=v:=by rw[at_set,if_neg (fun e=>by rw[e,Nat.beq_refl]at hn;cases hn)];exact k
def Yd{fr:Fr}{a b t:Nat}{v x y:N}(hn:(Nat.beq t a||Nat.beq t b)=false)(k:Fr.at fr t=v):Fr.at (Tr.set (Tr.set fr b y) a x) t=v:=by rw[Gj]at hn;exact Zm hn.1 (Zm hn.2 k)
def Ym{fr:Fr}{a b c d t:Nat}{v x y z w:N}(hn:((Nat.beq t a||Nat.beq t b)||(Nat.beq t c||Nat.beq t d))=false)(k:Fr.at fr t=v):Fr.at (Tr.set (Tr.set (Tr.set (Tr.set fr d w) c z) b y) a x) t=v:=by rw[Gj]at hn;exact Yd hn.1 (Yd hn.2 k)
def Xe{fr:Fr}{a b c d m l c' h t:Nat}{v x y z w r q p w':N}(hn:(((Nat.beq t a||Nat.beq t b)||(Nat.beq t c||Nat.beq t d))||((Nat.beq t m||Nat.beq t l)||(Nat.beq t c'||Nat.beq t h)))=false)(k:Fr.at fr t=v):
 Fr.at (Tr.set (Tr.set (Tr.set (Tr.set (Tr.set (Tr.set (Tr.set (Tr.set fr h w') c' p) l q) m r) d w) c z) b y) a x) t=v:=by
 rw[Gj]at hn;exact Ym hn.1 (Ym hn.2 k)
def fh{fr:Fr}{d:Nat}{v:N}:Fr.at (Tr.set fr d v) d=v:=ZZS _ _ _
def ZC{fr:Fr}{t:Nat}{v:N}(h:fr.at t=v)(l:Qv v=false):YM fr (.tmp t)=some v:=by rw[ZkV,h,l];rfl
def Xz{fr:Fr}{t:Nat}{c:Z}{v:N}(h:fr.at t=cond c v undef)(m:Qv v=false):c=true->YM fr (.tmp t)=some v:=fun l=>by
 rw[ZkV,h,l,Cq1,m];rfl
def KP{fr:Fr}{v:N}(h:plain v=true):YM fr (.const v)=some v:=by rw[ZBd,h];rfl
def ZFo{fr:Fr}{t:Nat}{c b:Z}(h:fr.at t=cond c (.bool b) undef):YM fr (.tmp t)=some (cond c (.bool b) undef):=by rw[ZkV,h];cases c<;>rfl
def Zbf{fr:Fr}{t:Nat}{a c b:Z}(h:fr.at t=cond (a&&c) (.bool b) undef)(l:a=true):YM fr (.tmp t)=some (cond c (.bool b) undef):=by subst l;rw[ZkV,h];cases c<;>rfl
def ZWI{h β:Type}(l:h->Fs->Prop)(j:h->O β)(r:β)(Q:XX->Fs->Prop):XX->Fs->Prop:=fun e s=>
 match e with|.normal=>∃a,j a=some r/\l a s|e=>Q e s
structure YV{α β:Type}(I':α->Fs->Prop)(j:α->Option β)(r:β)(Q:XX->Fs->Prop)(e:XX)(s:Fs):Prop where
 out:ZWI I' j r Q e s
def YV.Yx{l β:Type}{m:l->Fs->Prop}{j:l->O β}{r:β}(a:l)(h:j a=some r)(i:m a s):YV m j r Q .normal s:=⟨a,h,i⟩
def YV.ret{l β:Type}{m:l->Fs->Prop}{j:l->O β}{r:β}(h:Q .ret s):YV m j r Q .ret s:=⟨h⟩
def YV.panic{l β:Type}{m:l->Fs->Prop}{j:l->O β}{r:β}{v:N}(h:Q (.panic v) s):YV m j r Q (.panic v) s:=⟨h⟩
def WC.KV{l β:Type}{a b:Code}{r:β}(m:l->Fs->Prop)(j:l->O β)(k:∀x s',j x=some r->m x s'->WC X n L rd b s' Q)(h:WC X n L rd a s (YV m j r Q)):WC X n L rd (.seq a b) s Q:=by refine WC.seq (h.mono fun e s' q=>⟨?_⟩);have q:=q.out;cases e with|normal=>have⟨x,h1,h2⟩:=q;exact k x s' h1 h2|_=>exact q
def WC.Zed{c:GV}{a b:Code}{t:Z}{fr:Fr}{ds:U V2}{h:H}(l:YM fr c=some (.bool t))(h1:t=true->WC X n L rd a ⟨fr,ds,h,none⟩ Q)(h2:t=false->WC X n L rd b ⟨fr,ds,h,none⟩ Q):WC X n L rd (.cond c a b) ⟨fr,ds,h,none⟩ Q:=WC.cond (s:=⟨fr,ds,h,none⟩) l h1 h2
def WC.Zjv{c:GV}{a b:Code}{t:Z}{fr:Fr}{ds:U V2}{h:H}(m:YM fr c=some (.bool t))(l:t=true)(k:WC X n L rd a ⟨fr,ds,h,none⟩ Q):WC X n L rd (.cond c a b) ⟨fr,ds,h,none⟩ Q:=WC.ZFz (s:=⟨fr,ds,h,none⟩) m l k
def WC.Zjw{c:GV}{a b:Code}{t:Z}{fr:Fr}{ds:U V2}{h:H}(m:YM fr c=some (.bool t))(l:t=false)(k:WC X n L rd b ⟨fr,ds,h,none⟩ Q):WC X n L rd (.cond c a b) ⟨fr,ds,h,none⟩ Q:=WC.Zzi (s:=⟨fr,ds,h,none⟩) m l k
def WL.lift{h β:Type}{c:Code}{body:h->(h->O β)->O β}{r:β}{F:Nat}{a:h}(q:loop F body a=some r)(p:h->Fs->Prop)(l:p a s)
 (round:∀(next:h->O β) a s,(∀m s',next m=some r->p m s'->WL X n L rd c s' Q)->body a next=some r->p a s->WC X n L rd c s (ZR X n L rd c Q)):WL X n L rd c s Q:=by
 induction F generalizing a s with|zero=>cases q|succ F ih=>exact WL.step (round _ _ _ (fun m s' h1 h2=>ih h1 h2) q l)
section
variable{h:H}{ev:GV->O N}{d:O Tmp}{ty:J}{p:String}{af:GZ Edge}{g:O (Nat×Z)}
def Z4{x:GV}{t:J}{b o l j:Nat}{vs:U N}{v:N}(q:Y6 X.P t=some false)(m:ev x=some (.pointer (some ⟨b,l,none⟩)))(y:At h b o vs)(r:l=o+j)(hv:vs[j]? =some v):
 Qd X h ev ⟨d,.load t x,ty,p,af,g⟩=some (.val v,.none):=by
 have⟨cs,own,z,h1,h2⟩:=y.cell hv;subst r;exact ZFP q m h1 h2
def Yb{x:GV}{t:J}{b o m j l:Nat}{vs ws:U N}(r:Y6 X.P t=some true)(y:YX X.P t=some l)(q:ev x=some (.pointer (some ⟨b,m,none⟩)))(C:At h b o vs)(A:m=o+j)(B:Nat.ble (j+l) vs.length=true)(hv:(vs.drop j).take l=ws):
 Qd X h ev ⟨d,.load t x,ty,p,af,g⟩=some (.val (.agg ws.toArray),.none):=by
 have⟨cs,own,z,h1,h2,h3⟩:=C.part (Nl0 B) hv;subst A;exact ZFO r y q h1 h2 h3
def ZWo{l:Type}{xs:U l}{v:l}{x y:GV}{t e:J}{m b o c:Nat}{a:O Addr}{k:Int}(hu:X.P.underlying t=some (.slice e))(A:YX X.P e=some m)(r:ev x=some (.slice a xs.length c))(q:ev y=some (V4 k))(C:a=some ⟨b,o,none⟩)(B:Z7 xs k=some v):
 Qd X h ev ⟨d,.indexAddr t x y,ty,p,af,g⟩=some (.val (.pointer (some ⟨b,o+k.toNat*m,none⟩)),.none):=by
 have⟨h1,h2,_⟩:=ZiZ B;subst C;exact ZQC hu A r q h1.symm h2
def Zxn{h:BinOp}{t:J}{P:GW}{x y:GV}{a b c:Int}(h1:h=.add/\c=a+b\/h=.sub/\c=a-b\/h=.mul/\c=a*b):Q0 P h t x y (V4 a) (V4 b)=some (.val (V4 (Xa c)),.none):=Zxr h1
def ZjM{t:J}{P:GW}{x y:GV}{a b:Int}:Q0 P .add t x y (V4 a) (V4 b)=some (.val (V4 (Xa (a+b))),.none):=Zxn (.inl ⟨rfl,rfl⟩)
def ZBf{t:J}{P:GW}{x y:GV}{a b:Int}:Q0 P .sub t x y (V4 a) (V4 b)=some (.val (V4 (Xa (a-b))),.none):=Zxn (.inr (.inl ⟨rfl,rfl⟩))
def ZBk{t:J}{P:GW}{x y:GV}{a b:Int}:Q0 P .mul t x y (V4 a) (V4 b)=some (.val (V4 (Xa (a*b))),.none):=Zxn (.inr (.inr ⟨rfl,rfl⟩))
end
def Sl.atG{l:Type}{e:WG l}{L:Nat}{h:H}{a:O Addr}{c:Nat}{xs:U l}{k:Int}{x:l}{g:Z}(s:g=true->Sl e L h a c xs)(m:g=true->Z7 xs k=some x):
 ∃i o q,g=true->(a=some ⟨i,o,none⟩/\At h i (o+k.toNat*e.sz) (e.sh q x)/\Stb L h i/\e.F L h q x):=by
 cases g with
 | false=>exact⟨0,0,e.dflt,fun z=>by cases z⟩
 | true=>have⟨i,o,q,z⟩:=(s rfl).at_ (m rfl);exact⟨i,o,q,fun _=>z⟩
def Src.atG{l:Type}{e:WG l}{L:Nat}{h:H}{a:O Addr}{c:Nat}{xs:U l}{k:Int}{x:l}{g:Z}(s:g=true->Src e L h a c xs)(m:g=true->Z7 xs k=some x):
 ∃i o q,g=true->(a=some ⟨i,o,none⟩/\At h i (o+k.toNat*e.sz) (e.sh q x)/\e.F L h q x):=by
 cases g with
 | false=>exact⟨0,0,e.dflt,fun z=>by cases z⟩
 | true=>have⟨i,o,q,z⟩:=(s rfl).at_ (m rfl);exact⟨i,o,q,fun _=>z⟩
abbrev WR(X:Ctx)(f:GX)(args:GZ N)(L:Nat)(h:H)(R:N->H->Prop):Prop:=WF X f args L h (fun e l=>∃v,e=.ret v/\R v l)
def WF.ZR9{f:GX}{args:GZ N}{h:H}{v:N}(l:plain v=true)(k:WR X f args h.size h (fun v' _=>v'=v)):Pure X f args h v:=
 WF.pure l (k.mono fun e m ⟨v',h1,h2⟩=>by rw[h1,h2])
end
section
variable{X:Ctx}{n L:Nat}{rd:O Nat}{Q:XX->Fs->Prop}
variable{V:GZ Oper}{l:U Oper}{fr:Fr}{ds:U V2}{h:H}{d:Nat}{ty:J}{p:String}{af:GZ Edge}{g:O (Nat×Z)}
section
variable{α:Type}{e:WG α}{lo:Nat}{h':H}
def JL.nil{L:Nat}{cs:U N}{o:Nat}(l:o<=cs.length):JL e L h cs o ([]:U α):=⟨by simpa using l,fun k x m=>by simp at m⟩
def JL.ZHu{L:Nat}:∀(l:U (e.Par×α)),(∀q∈l,e.F L h q.1 q.2)->JL e L h (l.flatMap fun q=>e.sh q.1 q.2) 0 (l.map (·.2)):=by
 intro l r
 have t:∀(l:U (e.Par×α)),(l.flatMap fun q=>e.sh q.1 q.2).length=l.length*e.sz:=by
  intro l;induction l with|nil=>simp|cons q l ih=>rw[Kf,K1,ih,e.len,Kd,Nat.succ_mul];omega
 refine⟨by rw[t];simp,?_⟩
 induction l with|nil=>intro k x m;simp at m|cons q l ih=>
   intro k x m;cases k with
   | zero=>
     simp at m;subst m;refine⟨q.1,?_,r q Vd⟩;rw[Kf,Nat.zero_mul,Nat.add_zero,List.drop_zero,List.take_append_of_le_length (by rw[e.len];exact K2 _),List.take_of_length_le (by rw[e.len];exact K2 _)]
   | succ k=>
     have⟨q',h1,h2⟩:=ih (fun q p=>r q (by simp[p])) k x (by simpa using m);refine⟨q',?_,h2⟩;rw[<-h1,Kf,List.drop_append,e.len,List.drop_of_length_le (by rw[e.len,Nat.succ_mul];omega),Jx];congr 2;rw[Nat.succ_mul];omega
def JL.cut{L:Nat}{cs:U N}{o:Nat}{xs:U α}(a:JL e L h cs o xs):JL e L h ((cs.drop o).take (xs.length*e.sz)) 0 xs:=by have p:=a.len;refine⟨by rw[Gt,GC];omega,fun k x m=>?_⟩;have⟨q,h1,h2⟩:=a.get k x m;refine⟨q,?_,h2⟩;have l:k<xs.length:=(Li0 m).1;have:(k+1)*e.sz<=xs.length*e.sz:=GP _ l;rw[Nat.succ_mul]at this;rw[<-h1,List.drop_take,List.take_take,List.drop_drop,G6];congr 1;omega
def JL.ZRV{L:Nat}{cs:U N}{o:Nat}{xs:U α}(p:o+xs.length*e.sz<=cs.length)(a:JL e L h ((cs.drop o).take (xs.length*e.sz)) 0 xs):JL e L h cs o xs:=by refine⟨p,fun k x m=>?_⟩;have⟨q,h1,h2⟩:=a.get k x m;refine⟨q,?_,h2⟩;have l:k<xs.length:=(Li0 m).1;have:(k+1)*e.sz<=xs.length*e.sz:=GP _ l;rw[Nat.succ_mul]at this;rw[<-h1,List.drop_take,List.take_take,List.drop_drop,G6];congr 1;omega
def JL.append{L:Nat}{YK bs:U N}{xs ys:U α}(p:YK.length=xs.length*e.sz)(a:JL e L h YK 0 xs)(b:JL e L h bs 0 ys):JL e L h (YK++bs) 0 (xs++ys):=by
 have h1:=a.len;have h2:=b.len;refine⟨by rw[K1,K1,Nat.add_mul];omega,fun k x m=>?_⟩;rw[G6];by_cases l:k<xs.length;.rw[List.getElem?_append_left l]at m;have⟨q,q1,q2⟩:=a.get k x m;refine⟨q,?_,q2⟩;have:(k+1)*e.sz<=xs.length*e.sz:=GP _ l;rw[Nat.succ_mul]at this;rw[G6]at q1;rw[<-q1,List.drop_append,List.take_append_of_le_length (by rw[GC];omega)]
 rw[List.getElem?_append_right V6]at m;have⟨q,q1,q2⟩:=b.get _ x m;refine⟨q,?_,q2⟩;have:xs.length*e.sz<=k*e.sz:=GP _ V6;rw[G6]at q1;rw[<-q1,List.drop_append,List.drop_of_length_le V6,Jx,p,Nat.sub_mul]
def JL.one{L:Nat}{cs:U N}{xs:U α}(r:cs.length=xs.length*e.sz)(a:JL e L h cs 0 xs):cs.all Value.oneCell'=true:=by rw[KB];intro v hv;have⟨j,hj⟩:=Gy.1 hv;have m:j<cs.length:=(Li0 hj).1;have p:=e.pos;have t:j / e.sz<xs.length:=Nat.div_lt_of_lt_mul (by rw[Nat.mul_comm,<-r];exact m);have⟨q,q1,_⟩:=a.get (j / e.sz) xs[j / e.sz] (G4 t);have l:=e.one q xs[j / e.sz];rw[KB]at l;refine l v ?_;rw[<-q1,Gy];refine⟨j % e.sz,?_⟩;rw[List.getElem?_take_of_lt (Nat.mod_lt _ p),GS,G6];have:j / e.sz*e.sz+j % e.sz=j:=Nat.div_add_mod' j e.sz;rw[this];exact hj
def Zcs(h:H)(i o m c l:Nat):Go.Z9.reads h (.slice (some ⟨i,o,none⟩) m c) l=bif Nat.beq m 0 then some [] else
 match h.at i with|.row cs _ _=>bif Nat.ble (o+m*l) cs.length then some ((cs.drop o).take (m*l)) else none|_=>none:=by cases i<;>cases o<;>rfl
def Src.reads{L:Nat}{a:O Addr}{c:Nat}{xs:U α}(s:Src e L h a c xs):∃vs,reads h (.slice a xs.length c) e.sz=some vs/\vs.length=xs.length*e.sz/\JL e L h vs 0 xs:=by
 rcases s.mem with z|⟨i,o,cs,own,z,h1,h2,h3⟩
 .subst z;refine⟨[],?_,by simp,JL.nil Vd⟩;rcases s.nl with⟨rfl,rfl⟩|⟨rfl,rfl⟩|⟨i,o,rfl⟩
  .rfl
  .rfl
  rw[Zcs];rfl
 subst h1;by_cases l:xs=[];.subst l;exact⟨[],by rw[Zcs];rfl,by simp,JL.nil Vd⟩
 have p:=h3.len;have m:0<xs.length:=List.length_pos_iff.2 l;refine⟨(cs.drop o).take (xs.length*e.sz),?_,by rw[Gt,GC];omega,h3.cut⟩;rw[Zcs];have r:Nat.beq xs.length 0=false:=by rw[Gm];intro q;have:=Nb0 q;omega
 simp[r,Cq0,h2];rw[Nm0 p];rfl
def Ko.mk'{L:Nat}{h:H}{xs:U α}{vs:U N}{i c:Nat}(p:xs.length<=9223372036854775807)(l:lo<=i)(m:h.at i=.row vs true e.sz)(r:xs.length<=c / 2)(q:(c / 2)*e.sz<=vs.length)(t:JL e L h vs 0 xs):Ko e L lo h (some ⟨i,0,none⟩) c xs:=
 ⟨p,.inr ⟨i,0,vs,rfl,l,m,r,by omega,t⟩⟩
def Zev(P:GW)(ts:GZ J)(h by_:Nat):Prop:=∃l z,ZaI P ts=some (l,h,by_,z)
def ZQE{K:Prop}{J':N->H->Prop}{ts:GZ J}{x y:GV}{by_:Nat}{a a2:O Addr}{c c2:Nat}{xs ys zs:U α}(lo:Nat)(k':∀v E h1,Qd X h (YM fr) ⟨some d,.call {callee:=.builtin .append,args:=#[x,y],argTypes:=ts},ty,p,af,g⟩=some (.val v,E)->E.apply L h=some h1->J' v h1->K)
 (B:Zev X.P ts e.sz by_) (hw:L<=lo) (hlo:lo<=h.size) (hx:YM fr x=some (.slice a xs.length c)) (hy:YM fr y=some (.slice a2 ys.length c2)) (so:Ko e L lo h a c xs) (sr:Src e L h a2 c2 ys) (ha:app by_ xs ys=some zs)
 (k:∀a' c' h',Up lo (Um a) h h'->Ko e L lo h' a' c' zs->(∀i,Um a' i->Um a i\/i=h.size)->J' (.slice a' zs.length c') h'):K:=by
 obtain⟨rfl,S⟩:=ZFU ha;obtain⟨el,z,B⟩:=B;obtain⟨new,n1,n2,n3⟩:=sr.reads;have n4:=n3.one n2;have hpos:=e.pos;have hev:evs (YM fr) (#[x,y]:GZ GV).toList=some [.slice a xs.length c,.slice a2 ys.length c2]:=Zb hx (Zb hy Zf);have I:JN (.slice a2 ys.length c2)=ys.length:=rfl
 have F:∀(v:N)(E:Eff),J2 X.P h ts (.slice a xs.length c) (.slice a2 ys.length c2)=some (v,E)->Qd X h (YM fr) ⟨some d,.call {callee:=.builtin .append,args:=#[x,y],argTypes:=ts},ty,p,af,g⟩=some (.val v,E):=by
  intro v E hE;rw[K4,hev];show vE (J2 X.P h ts (.slice a xs.length c) (.slice a2 ys.length c2))=_;rw[hE];rfl
 have ZTS:by_=0\/(2*(xs.length+ys.length)+1000)<=2 ^ 47:=by
  rcases Nat.eq_zero_or_pos by_ with z|z
  ·exact .inl z
  right;have:(2*(xs.length+ys.length)+1000)*1<=(2*(xs.length+ys.length)+1000)*by_:=Nat.mul_le_mul_left _ z;rw[Nat.mul_one]at this;exact KK this S
 have hby:1<=by_:=by
  unfold ZaI at B;split at B
  ·split at B
   ·split at B
    ·rename_i sz0 by0 z0 hs l hz;cases hc:(Nat.ble 1 sz0&&Nat.ble 1 by0&&Nat.beq z0.cells.toList.length sz0)<;>rw[hc]at B<;>simp at B
     obtain⟨_,_,rfl,_⟩:=B;rw[Ba0,Ba0]at hc;exact Nl0 hc.1.2
    cases B
   cases B
  cases B
 have D:(xs++ys).length<=9223372036854775807:=by
  rw[K1];rcases ZTS with z|z<;>omega
 have A:(xs++ys).length=xs.length+ys.length:=K1;rcases so.mem with⟨rfl,rfl,rfl⟩|⟨i,o,cs,rfl,r,C,hc1,hc2,Q⟩
 ·-- of nothing
  by_cases G:ys=[]
  ·subst G;refine k' _ (.none) _ (F (V3) _ ?_) rfl ?_
   ·unfold J2;rw[B];dsimp only;rw[n1];rfl
   exact k none 0 h ⟨K2 _,fun _ _ _=>rfl,fun i l=>by obtain⟨o,l⟩:=l;cases l⟩ Ko.nil (fun i l=>by obtain⟨o,l⟩:=l;cases l)
  have hyl:0<ys.length:=List.length_pos_iff.2 G;refine k' _ (.new (.row ([]++new) true e.sz)) _ (F (.slice (some ⟨h.size,0,none⟩) ([]++ys).length (2*([]++ys).length+1)) _ ?_) rfl ?_
  ·unfold J2;rw[B];dsimp only;rw[n1];dsimp only;rw[I];have b1:Nat.ble (([]:U α).length+ys.length) (0 / 2)=false:=by rw[Gm];intro q;have q:=Nl0 q;rw[GF,G6,Nat.zero_div]at q;omega
   rw[b1,Nm0 S,n4];simp only[Cq0,Bool.and_self,Cq1];have b2:reads h (.slice none ([]:U α).length 0) e.sz=some []:=rfl;rw[b2];simp
  refine k _ _ _ ⟨Nat.le_succ _,fun i B _=>ZbE B _,fun i l=>by obtain⟨o,l⟩:=l;cases l⟩ ?_ (fun i l=>by obtain⟨o,l⟩:=l;cases l;exact .inr rfl);refine Ko.mk' D hlo (Wy h _) (by simp only[Jx];omega) ?_ ?_
  ·simp only[Jx];rw[n2];have:(2*ys.length+1) / 2=ys.length:=V6
   rw[this];omega
  simp only[Jx];exact n3.mono ((Up.push lo h _).fz hw)
 have t:(h.at i).own=true:=by rw[C];rfl
 have hil:i<h.size:=X4 C rfl;have hxl:o+xs.length*e.sz<=cs.length:=Q.len;by_cases m:xs.length+ys.length<=c / 2
 ·-- there is room
  by_cases G:ys=[]
  ·subst G;refine k' _ (.none) _ (F (.slice (some ⟨i,o,none⟩) xs.length c) _ ?_) rfl ?_
   ·unfold J2;rw[B];dsimp only;rw[n1];dsimp only;rw[I,Nm0 m];rfl
   have:=k (some ⟨i,o,none⟩) c h ⟨K2 _,fun _ _ _=>rfl,fun j l=>by obtain⟨o',l⟩:=l;cases l;exact⟨r,t⟩⟩ (by simpa using so) (fun j l=>.inl l)
   simpa using this
  have hyl:0<ys.length:=List.length_pos_iff.2 G
  have hfit:o+xs.length*e.sz+new.length<=cs.length:=by
   rw[n2];have:(xs.length+ys.length)*e.sz<=c / 2*e.sz:=GP _ m;rw[Nat.add_mul]at this;omega
  refine k' _ (.upd i (.row (splice cs (o+xs.length*e.sz) new) true e.sz)) (h.put i (.row (splice cs (o+xs.length*e.sz) new) true e.sz)) (F (.slice (some ⟨i,o,none⟩) (xs++ys).length c) _ ?_) ?_ ?_
  ·unfold J2;rw[B];dsimp only;rw[n1];dsimp only;rw[I,Nm0 m];have b1:Nat.beq ys.length 0=false:=by rw[Gm];intro q;have:=Nb0 q;omega
   rw[b1,C];simp only[Cq1,Cq0];rw[Nm0 hfit,n4,A];rfl
  ·show(bif Nat.ble L i&&(h.at i).own then some (h.put i _) else none)=_;rw[t,Nm0 (KK hw r)];rfl
  have hu:Up lo (Um (some ⟨i,o,none⟩)) h (h.put i (.row (splice cs (o+xs.length*e.sz) new) true e.sz)):=
   ⟨K2 _,fun j _ hn=>XE (fun q=>hn ⟨o,by rw[q]⟩) _,fun j l=>by obtain⟨o',l⟩:=l;cases l;exact⟨r,t⟩⟩
  refine k _ _ _ hu ⟨D,.inr ⟨i,o,_,rfl,r,YD hil _,by rw[A];exact m,?_,?_⟩⟩ (fun j l=>.inl l)
  ·simp only[splice,K1,Gt,GC];omega
  refine JL.ZRV ?_ (JL.mono (hu.fz hw) ?_)
  ·simp only[splice,K1,Gt,GC,Nat.add_mul,<-n2];omega
  have e1:((splice cs (o+xs.length*e.sz) new).drop o).take ((xs++ys).length*e.sz)=(cs.drop o).take (xs.length*e.sz)++new:=by
   have l1:(cs.take (o+xs.length*e.sz)).length=o+xs.length*e.sz:=by rw[Gt];omega
   unfold splice;rw[Q4,List.drop_append_of_le_length V6,A,Nat.add_mul,<-n2,List.take_append];have l2:((cs.take (o+xs.length*e.sz)).drop o).length=xs.length*e.sz:=by rw[GC,l1];omega
   rw[l2,List.take_of_length_le (by rw[l2];omega),List.drop_take];congr 1
   ·congr 1;omega
   have:xs.length*e.sz+new.length-xs.length*e.sz=new.length:=V6
   rw[this,List.take_append_of_le_length V7,List.take_of_length_le V7]
  rw[e1];exact JL.append (by rw[Gt,GC];omega) Q.cut n3
 -- it grows
 have b0:Nat.ble (xs.length+ys.length) (c / 2)=false:=by rw[Gm];intro q;exact m (Nl0 q)
 have T:reads h (.slice (some ⟨i,o,none⟩) xs.length c) e.sz=some ((cs.drop o).take (xs.length*e.sz)):=by
  rw[Zcs];cases l:Nat.beq xs.length 0 with
  | true=>
    have:=Nb0 l;rw[this];simp
  | false=>
    simp only[Cq0,C];rw[Nm0 hxl];rfl
 have W:((cs.drop o).take (xs.length*e.sz)).length=xs.length*e.sz:=by rw[Gt,GC];omega
 have hrl:((cs.drop o).take (xs.length*e.sz)++new).length=(xs++ys).length*e.sz:=by rw[K1,W,n2,A,Nat.add_mul]
 have V:(2*(xs++ys).length+1) / 2=(xs++ys).length:=V6
 cases ZIj:Nat.beq (c % 2) 0 with
 | true=>
   refine k' _ (.new (.row ((cs.drop o).take (xs.length*e.sz)++new) true e.sz)) _ (F (.slice (some ⟨h.size,0,none⟩) (xs++ys).length (2*(xs++ys).length+1)) _ ?_) rfl ?_
   ·unfold J2;rw[B];dsimp only;rw[n1];dsimp only;rw[I,b0,Nm0 S,n4,T,ZIj,A];rfl
   refine k _ _ _ ⟨Nat.le_succ _,fun j hj _=>ZbE hj _,fun j l=>by obtain⟨o',l⟩:=l;cases l;exact⟨r,t⟩⟩ ?_ (fun j l=>by obtain⟨o',l⟩:=l;cases l;exact .inr rfl);refine Ko.mk' D hlo (Wy h _) V6 (by rw[V,hrl];exact K2 _) ?_;exact(JL.append W Q.cut n3).mono ((Up.push lo h _).fz hw)
 | false=>
   refine k' _ (.grow i (.row ((cs.drop o).take (xs.length*e.sz)++new) true e.sz)) ((h.put i .dead).push (.row ((cs.drop o).take (xs.length*e.sz)++new) true e.sz)) (F (.slice (some ⟨h.size,0,none⟩) (xs++ys).length (2*(xs++ys).length+1)) _ ?_) ?_ ?_
   ·unfold J2;rw[B];dsimp only;rw[n1];dsimp only;rw[I,b0,Nm0 S,n4,T,ZIj];simp only[Cq0,Bool.and_self,Cq1];rw[C];dsimp only;rw[Nat.beq_refl,A];rfl
   ·show(bif Nat.ble L i&&(h.at i).own&&true then some ((h.put i .dead).push _) else none)=_;rw[t,Nm0 (KK hw r)];rfl
   have hu:Up lo (Um (some ⟨i,o,none⟩)) h ((h.put i .dead).push (.row ((cs.drop o).take (xs.length*e.sz)++new) true e.sz)):=
    ⟨Nat.le_succ _,fun j hj hn=>by rw[ZbE (by simpa using hj),XE (fun q=>hn ⟨o,by rw[q]⟩)],fun j l=>by obtain⟨o',l⟩:=l;cases l;exact⟨r,t⟩⟩
   refine k _ _ _ hu ?_ (fun j l=>by obtain⟨o',l⟩:=l;cases l;exact .inr rfl);refine Ko.mk' D hlo (by have:=Wy (h.put i .dead) (.row ((cs.drop o).take (xs.length*e.sz)++new) true e.sz);simpa using this) V6 (by rw[V,hrl];exact K2 _) ?_;exact(JL.append W Q.cut n3).mono (hu.fz hw)
end
def Um.none{i:Nat}:¬ Um Option.none i:=fun⟨_,h⟩=>by cases h
def Jr.frozen{ρ:Ren}{w:GY}{b d:Nat}{l:Nat×Nat}{cs:U N}{o:Z}{z m:Nat}(h:Jr ρ w b d l (.row cs o z)):Jr ρ w b d l (.row cs false m):=by have⟨cc,el,fz,a,_,c,q⟩:=h;exact⟨cc,el,fz,a,(fun e=>by cases e),c,q⟩
def Rel.freeze{ρ:Ren}{h:H}{w:GY}{i:Nat}{cs:U N}{o:Z}{z:Nat}(p:h.at i=.row cs o z)(r:Rel ρ h w):Rel ρ (h.put i (.row cs false 0)) w:=by
 have x:=X4 p rfl
 have l:∀j,(h.put i (.row cs false 0)).at j=if j=i then .row cs false 0 else h.at j:=fun j=>by
  by_cases e:j=i;.subst e;rw[YD x,if_pos rfl]
  rw[XE e,if_neg e]
 refine⟨r.dom,fun j b d e=>?_,fun j k b d B A t m q=>?_⟩
 .rw[l];have:=r.obj j b d e;split;next t=>subst t;rw[p]at this;exact this.frozen
  exact this
 rw[l]at m q;refine r.inj j k b d B A t ?_ ?_
 .split at m;.cases m
  exact m
 split at q;next y=>subst y;rw[p];rfl
 exact q
def Stp.freeze{L:Nat}{ρ p:Ren}{h x:H}{w w':GY}{i:Nat}{cs:U N}{z:Nat}(hw:L<=i)(t:h.at i=.row cs true z)(a:Stp L ρ (h.put i (.row cs false 0)) w p x w'):Stp L ρ h w p x w':=by
 have C:=X4 t rfl
 have m:∀j,(h.put i (.row cs false 0)).at j=if j=i then .row cs false 0 else h.at j:=fun j=>by
  by_cases e:j=i;.subst e;rw[YD C,if_pos rfl]
  rw[XE e,if_neg e]
 have l:∀j,((h.put i (.row cs false 0)).at j).own=true->(h.at j).own=true:=fun j e=>by
  rw[m]at e;split at e;.cases e
  exact e
 refine⟨a.ext,a.size,fun j q=>?_,fun j q e=>l j (a.own j q e),fun j q e=>?_,a.os,a.tape,a.output,a.X0,fun b D r=>a.frame b D fun j d h1 h2 E=>r j d h1 h2 (l j E),fun j b d e G=>?_⟩;.rw[a.keep j q,m,if_neg V6]
 .have:=a.live j q e;rw[m]at this;split at this;next F=>subst F;rw[t];rfl
  exact this
 have⟨h1,h2⟩:=a.Uu j b d e G;exact⟨h1,h2.imp id fun⟨k,I,B,A,y⟩=>⟨k,I,B,A,l k y⟩⟩
def WO.Zi1{i:Nat}{cs:U N}{z:Nat}(hw:L<=i)(q:h.at i=.row cs true z)(k:WO X n L rd V l ⟨fr,ds,h.put i (.row cs false 0),none⟩ Q):WO X n L rd V l ⟨fr,ds,h,none⟩ Q:=by have⟨e,s',hq,hk⟩:=k;refine⟨e,s',hq,fun B ρ F a w p A t m=>hk B ⟨p.rel.freeze q,p.fr,p.ds⟩ (by simpa using A) t fun x y w' r=>m x y w' ?_⟩;have⟨ρ',h1,h2,h3⟩:=r;exact⟨ρ',h1,h2,h3.freeze hw q⟩
def WO.freeze{t:Type}{e:WG t}{lo:Nat}{a:O Addr}{c:Nat}{xs:U t}(hw:L<=lo)(p:Ko e L lo h a c xs)(k:∀r,Up lo (Um a) h r->Sl e L r a c xs->WO X n L rd V l ⟨fr,ds,r,none⟩ Q):WO X n L rd V l ⟨fr,ds,h,none⟩ Q:=by
 rcases p.mem with⟨rfl,rfl,rfl⟩|⟨i,o,cs,rfl,h1,h2,A,y,x⟩
 .exact k h ⟨K2 _,fun _ _ _=>rfl,fun i m=>by have⟨o,m⟩:=m;cases m⟩ Sl.nil
 have hu:Up lo (Um (some ⟨i,o,none⟩)) h (h.put i (.row cs false 0)):=
  ⟨K2 _,fun j _ hn=>XE (fun q=>hn ⟨o,by rw[q]⟩) _,fun j m=>by have⟨o',m⟩:=m;cases m;exact⟨h1,by rw[h2];rfl⟩⟩
 exact WO.Zi1 (KK hw h1) h2 (k _ hu ⟨p.max,p.cap,p.nl,.inr ⟨i,o,cs,false,0,rfl,YD (X4 h2 rfl) _,.inr rfl,x.mono (hu.fz hw)⟩⟩)
def WC.Zi1{q:Code}{i:Nat}{cs:U N}{z:Nat}(hw:L<=i)(p:h.at i=.row cs true z)(k:WC X n L rd q ⟨fr,ds,h.put i (.row cs false 0),none⟩ Q):WC X n L rd q ⟨fr,ds,h,none⟩ Q:=by have⟨e,s',hq,hk⟩:=k;refine⟨e,s',hq,fun ρ a w F x m r=>wpIn_mono (hk ρ a w F (by simpa using x) ⟨m.rel.freeze p,m.fr,m.ds⟩ r) ?_⟩;rintro y A w' ⟨l,h1,h2,t⟩;exact⟨l,h1,h2,t.freeze hw p⟩
def WC.freeze{t:Code}{r:Type}{e:WG r}{lo:Nat}{a:O Addr}{c:Nat}{xs:U r}(hw:L<=lo)(m:Ko e L lo h a c xs)(k:∀p,Up lo (Um a) h p->Sl e L p a c xs->WC X n L rd t ⟨fr,ds,p,none⟩ Q):WC X n L rd t ⟨fr,ds,h,none⟩ Q:=by
 rcases m.mem with⟨rfl,rfl,rfl⟩|⟨i,o,cs,rfl,h1,h2,A,y,x⟩
 .exact k h ⟨K2 _,fun _ _ _=>rfl,fun i l=>by have⟨o,l⟩:=l;cases l⟩ Sl.nil
 have hu:Up lo (Um (some ⟨i,o,none⟩)) h (h.put i (.row cs false 0)):=
  ⟨K2 _,fun j _ hn=>XE (fun q=>hn ⟨o,by rw[q]⟩) _,fun j l=>by have⟨o',l⟩:=l;cases l;exact⟨h1,by rw[h2];rfl⟩⟩
 exact WC.Zi1 (KK hw h1) h2 (k _ hu ⟨m.max,m.cap,m.nl,.inr ⟨i,o,cs,false,0,rfl,YD (X4 h2 rfl) _,.inr rfl,x.mono (hu.fz hw)⟩⟩)
end
variable{X:Ctx}{P:GW}
def Zfp{h β:Type}(s:Sem h)(f:h->Sem β):ZP P (s >>=f)=match ZP P s with|some (.ok a)=>ZP P (f a)|some (.error v)=>some (.error v)|none=>none:=by induction s with|pure a=>rfl|program k ih=>exact ih P|halt x=>cases x<;>rfl|load|store|new|shape|freeze|frozen|getObj|setObj|choose|sys|mark=>rfl
def prb{l β:Type}{s:Sem l}{f:l->Sem β}{a:l}(h:ZP P s=some (.ok a)):ZP P (s >>=f)=ZP P (f a):=by rw[Zfp,h]
def Xi {t:J} {u:TypeDesc} (h:P.underlying t=some u):ZP P (underlying t)=some (.ok u):=by
 show ZP P (match P.underlying t with | some d=>pure d | none=>stuck "no such type")=_;rw [h];rfl
def eq_int {t:J} {k:IntKind} {a b:Int} {d:Nat} (hu:P.underlying t=some (.int k)):ZP P (Op.equalIn (d + 1) t (.int k a) (.int k b))=some (.ok (a==b)):=by
 unfold Op.equalIn;rw [prb (Xi hu)];show ZP P (if k=k then pure (a==b) else stuck "==: kinds differ")=_;rw [if_pos rfl];rfl
def ZJM{t:J}{a b:Z}{d:Nat}(hu:P.underlying t=some .bool):ZP P (Op.equalIn (d+1) t (.bool a) (.bool b))=some (.ok (a==b)):=by unfold Op.equalIn;rw[prb (Xi hu)];rfl
def ZP5{t:J}{a b:Y}{d:Nat}(hu:P.underlying t=some .string):ZP P (Op.equalIn (d+1) t (.string a) (.string b))=some (.ok (a==b)):=by unfold Op.equalIn;rw[prb (Xi hu)];rfl
def ZeJ{t:J}{cs:GZ N}{off:Nat}{v:N}(h:Y6 P t=some false)(hv:cs[off]? =some v):ZP P (part t cs off)=some (.ok v):=by
 unfold Y6 at h;unfold part isAgg;cases hu:P.underlying t with|none=>rw[hu]at h;cases h|some u=>
   rw[hu]at h;rw[prb (a:=false)];.simp only[hv];rfl
   rw[prb (Xi hu)];cases u<;>first|rfl | (cases h;done)
def FEq (P:GW) (d:Nat) (xs ys:GZ N):U Field ->U Z ->Prop
 | [],[]=>True
 | f::fl,b::bs=>(f.name ≠ "_" ∧∃ v w,ZP P (part f.type xs f.offset)=some (.ok v)∧ZP P (part f.type ys f.offset)=some (.ok w)∧ZP P (Op.equalIn d f.type v w)=some (.ok b))∧FEq P d xs ys fl bs
 | _,_=>False
def ZIP {d:Nat} {xs ys:GZ N}:∀ {fl:U Field} {bs:U Z},FEq P d xs ys fl bs ->
 ZP P (forIn fl ((none:O Z),()) fun f _=>if f.name ≠ "_" then do
  let a ← part f.type xs f.offset
  let b ← part f.type ys f.offset
  let r ← Op.equalIn d f.type a b
  if(!r)=true then pure (ForInStep.done (some false,())) else pure (ForInStep.yield (none,()))
  else pure (ForInStep.yield (none,())):Sem (O Z×Unit))=some (.ok (bif bs.all id then none else some false,())):=by
 intro fl
 induction fl with
 | nil=>
   intro bs h;cases bs with
   | nil=>rfl
   | cons=>exact h.elim
 | cons f fl ih=>
   intro bs h;cases bs with
   | nil=>exact h.elim
   | cons b bs=>
     obtain⟨⟨h1,v,w,h2,h3,h4⟩,h5⟩:=h;rw [List.forIn_cons,if_pos h1,Zfp,prb h2,prb h3,prb h4];cases b with
     | false=>rfl
     | true=>
       have:=ih h5;have e:(true::bs).all id=bs.all id:=by simp
       rw [e,← this];rfl
def ZAO{t:J}{l:GZ Field}{xs ys:GZ N}{d:Nat}{bs:U Z}(hu:P.underlying t=some (.struct l))(h:P.stoodInHeld t=false)(m:FEq P d xs ys l.toList bs):
 ZP P (Op.equalIn (d+1) t (.agg xs) (.agg ys))=some (.ok (bs.all id)):=by
 unfold Op.equalIn;rw[prb (Xi hu)];show ZP P (if P.stoodInHeld t=true then _ else _)=_;rw[h,if_neg Vd];have:=ZIP m;rw[<-Array.forIn_toList];rw[prb this];cases bs.all id<;>rfl
def Zus{t:J}{x y:GV}{xs ys:GZ N}{h:BinOp}(l:h=.eql\/h=.neq)(m:P.eqGuardType P.depth t=false):ZP P (eqGuard h t x y (.agg xs) (.agg ys))=some (.ok ()):=by
 rcases l with rfl|rfl
 .show ZP P (if(!P.eqGuardType P.depth t)=true then _ else _)=_;rw[m];rfl
 show ZP P (if(!P.eqGuardType P.depth t)=true then _ else _)=_;rw[m];rfl
def ZWS(P:GW)(t:J)(xs ys:U N)(b:Z):Prop:=P.eqGuardType P.depth t=false/\ZP P (Op.equal t (.agg xs.toArray) (.agg ys.toArray))=some (.ok b)
def ZGg{t:J}{x y:GV}{xs ys:U N}{b:Z}(h:ZWS P t xs ys b)(h1:xs.all scalar=true)(h2:ys.all scalar=true):Q0 P .eql t x y (.agg xs.toArray) (.agg ys.toArray)=some (.val (.bool b),.none):=by
 have l:(plain (.agg xs.toArray)&&plain (.agg ys.toArray))=true:=by
  have p:plain (.agg xs.toArray)=xs.all scalar:=rfl;have m:plain (.agg ys.toArray)=ys.all scalar:=rfl;rw[p,m,h1,h2];rfl
 unfold Q0;rw[l,Cq1];unfold KC;rw[prb (Zus (.inl rfl) h.1)]
 have:ZP P (binOp .eql t (.agg xs.toArray) (.agg ys.toArray))=some (.ok (.bool b)):=by
  show ZP P (do pure (Value.bool (<-Op.equal t (.agg xs.toArray) (.agg ys.toArray))):Sem N)=_;rw[prb h.2];rfl
 rw[this];rfl
def ZaR{h:H}{t:J}{b o l j:Nat}{vs:U N}{v:N}(m:Y6 P t=some false)(q:At h b o vs)(p:l=o+j)(hv:vs[j]? =some v):Zaz P h t (.pointer (some ⟨b,l,none⟩))=some v:=by have⟨cs,own,z,h1,h2⟩:=q.cell hv;subst p;exact Slc.load h1 m h2
def Xc{h:H}{t:J}{b o m j l:Nat}{vs ws:U N}(p:Y6 P t=some true)(q:YX P t=some l)(y:At h b o vs)(r:m=o+j)(x:Nat.ble (j+l) vs.length=true)(hv:(vs.drop j).take l=ws):Zaz P h t (.pointer (some ⟨b,m,none⟩))=some (.agg ws.toArray):=by have⟨cs,own,z,h1,h2,h3⟩:=y.part (Nl0 x) hv;subst r;exact ZpI p q h1 h2 h3
def Zp{fr:Fr}{h:H}:Zeh P fr h []=some []:=rfl
def ZB{fr:Fr}{h:H}{t:Nat}{v:N}{l:U ResultVar}{vs:U N}(hv:YM fr (.tmp t)=some v)(m:Zeh P fr h l=some vs):Zeh P fr h (.tmp t::l)=some (v::vs):=by have e:Zu0 P fr h (.tmp t)=some v:=hv;simp[Zeh,e,m]
def YE{fr:Fr}{h:H}{a t:Nat}{p v:N}{l:U ResultVar}{vs:U N}(q:fr.at a=p)(hv:Zaz P h t p=some v)(m:Zeh P fr h l=some vs):Zeh P fr h (.cell a t::l)=some (v::vs):=by
 have e:Zu0 P fr h (.cell a t)=some v:=by show Zaz P h t (fr.at a)=some v;rw[q];exact hv
 simp[Zeh,e,m]
def YG.QM{fn:Func}{R:N->H->Prop}{fr:Fr}{h:H}{wr:O Nat}{l:U ResultVar}{v:N}(m:fn.results.toList=l)(hv:Zeh X.P fr h l=some [v])(k:R v h):YG X fn (fun e p=>∃v,e=.ret v/\R v p) .ret ⟨fr,[],h,wr⟩:=by refine⟨⟨rfl,v,?_,v,rfl,k⟩⟩;unfold JB;rw[m,hv]
def YG.gen{fn:Func}{R:N->H->Prop}{fr:Fr}{h:H}{wr:O Nat}{l:U ResultVar}{vs:U N}(m:fn.results.toList=l)(hv:Zeh X.P fr h l=some vs)(p:Nat.beq vs.length 1=false)(k:R (.tuple vs.toArray) h):YG X fn (fun e q=>∃v,e=.ret v/\R v q) .ret ⟨fr,[],h,wr⟩:=by refine⟨⟨rfl,_,?_,_,rfl,k⟩⟩;unfold JB;rw[m,hv];match vs,p with|[],_=>rfl|[_],h=>cases h|_::_::_,_=>rfl
def YG.Yx{fn:Func}{R:Kn->H->Prop}{s:Fs}(k:YG X fn R .ret s):YG X fn R .normal s:=⟨k.out⟩
def ZnF{l:BinOp}{t:J}{x y:GV}{a b r:Z}(hu:P.underlying t=some .bool)(h:l=.eql/\r=(a==b)\/l=.neq/\r=(a !=b)):Q0 P l t x y (.bool a) (.bool b)=some (.val (.bool r),.none):=by
 have m:(plain (.bool a)&&plain (.bool b))=true:=rfl;have h2:ZP P (Op.equal t (.bool a) (.bool b))=some (.ok (a==b)):=ZJM (d:=9999) hu;unfold Q0;rw[m,Cq1];unfold KC;rcases h with⟨rfl,rfl⟩|⟨rfl,rfl⟩
 .have h1:ZP P (eqGuard .eql t x y (.bool a) (.bool b))=some (.ok ()):=rfl;rw[prb h1]
  have:ZP P (binOp .eql t (.bool a) (.bool b))=some (.ok (.bool (a==b))):=by
   show ZP P (do pure (Value.bool (<-Op.equal t (.bool a) (.bool b))):Sem N)=_;rw[prb h2];rfl
  rw[this];rfl
 have h1:ZP P (eqGuard .neq t x y (.bool a) (.bool b))=some (.ok ()):=rfl;rw[prb h1]
 have:ZP P (binOp .neq t (.bool a) (.bool b))=some (.ok (.bool (a !=b))):=by
  show ZP P (do pure (Value.bool (!(<-Op.equal t (.bool a) (.bool b)))):Sem N)=_;rw[prb h2];rfl
 rw[this];rfl
def ZpN{t:J}{x y:GV}{a b:Z}(hu:P.underlying t=some .bool):Q0 P .eql t x y (.bool a) (.bool b)=some (.val (.bool (a==b)),.none):=ZnF hu (.inl ⟨rfl,rfl⟩)
def ZBg{t:J}{x y:GV}{a b:Z}(hu:P.underlying t=some .bool):Q0 P .neq t x y (.bool a) (.bool b)=some (.val (.bool (a !=b)),.none):=ZnF hu (.inr ⟨rfl,rfl⟩)
section
abbrev SfT:=U (Nat×Nat×Nat×(YN->Prop))×U (Nat×U Nat)
variable{n L:Nat}{rd:O Nat}{V:GZ Oper}{l:U Oper}{fr:Fr}{ds:U V2}{h h1:H}{ty:J}{p:String}{af:GZ Edge}{g:O (Nat×Z)}{m:Nat}{sf:SfT}
def ZMh(A:YN):Prop:=∀(ρ h:Ren)(w:GY)(b d:Nat)(l:Nat×Nat),Jr ρ w b d l A->Jr h w b d l A
def Prm(P:GW)(L:Nat)(rd:O Nat)(V:GZ Oper)(o:Oper)(fr:Fr)(h:H)(v:N)(x:Nat)(C:YN->Prop):Prop:=
 x<h.size/\ZMh (h.at x)/\JK P L rd V o (fun _=>False) fr h v h/\∀A,C A->ZMh A/\JK P L rd V o (fun _=>False) fr (h.put x A) v (h.put x A)
variable{Q:Fr->H->Prop}
def ZWP(L:Nat)(t:O Nat):MOf false L t=fun x=>t=some x:=by funext x;unfold MOf;simp
def SU(X:Ctx)(L:Nat)(o:Oper)(fr:Fr)(h:H)(h1:H)(l:Z):Prop:=∃E,Qd X h (YM fr) o=some (.skip,E)/\E.apply L h=some h1/\(l=false->E.tgt=none)
def ZFA{l:U Nat}{i j:Nat}(h:i≠j):comp l i j=comp l j i:=by
 unfold comp;rcases Gl i j with z|z
 .have h1:Nat.blt i j=true:=by rw[G5];exact z
  have h2:Nat.blt j i=false:=by rw[Gm];intro q;rw[G5]at q;omega
  rw[h1,h2];rfl
 have h1:Nat.blt j i=true:=by rw[G5];omega
 have h2:Nat.blt i j=false:=by rw[Gm];intro q;rw[G5]at q;omega
 rw[h1,h2];rfl
def ZRY{x y:GV}{t:J}{b o z l:Nat}{cs cs' vs:U N}{v:N}{d:O Tmp}(B:YX X.P t=some l)(A:YM fr x=some (.pointer (some ⟨b,o,none⟩)))(r:YM fr y=some v)
 (q:h.at b=.row cs true z) (E:L<=b) (m:v.cells.toList=vs) (hn:vs.length=l) (C:o+l<=cs.length) (D:vs.all Value.oneCell'=true) (hv:splice cs o vs=cs'):
 Qd X h (YM fr) ⟨d,.store t x y,ty,p,af,g⟩=some (.skip,.upd b (.row cs' true z))/\(Eff.upd b (.row cs' true z)).apply L h=some (h.put b (.row cs' true z)):=by
 subst m;refine⟨?_,?_⟩
 .rw[ZA7,A,r];dsimp only
  have:ZjD X.P h t (.pointer (some ⟨b,o,none⟩)) v=some (.upd b (.row cs' true z)):=by
   unfold ZjD;rw[B];dsimp only;rw[q];dsimp only;have h1:Nat.beq v.cells.toList.length l=true:=by rw[hn];exact Nat.beq_refl l
   have h2:Nat.ble (o+l) cs.length=true:=Nm0 C;rw[h1,h2,D,hv];rfl
  rw[this];rfl
 show(bif Nat.ble L b&&(h.at b).own then some (h.put b (.row cs' true z)) else none)=_;rw[q];have:Nat.ble L b=true:=Nm0 E;rw[this];rfl
def XG{d:O Tmp}{t:J}{m:GZ (Nat×GV)}{r cs':U N}{q:U (Nat×Nat)}{l:U (Nat×N)}{ev:GV->O N}(A:JC X.P t r q)(x:evp ev m.toList=some l)(y:Zmr (fun i=>q[i]?) r.length l=true)(hv:Zt1 (fun i=>(q.getD i (0,0)).1) r l=cs'):
 Qd X h ev ⟨d,.build t m,ty,p,af,g⟩=some (.val (.agg cs'.toArray),.none):=by
 subst hv;obtain⟨z,D,h1,rfl,C,B⟩:=A;show(match evp ev m.toList with|some m=>vN (ZnD X.P t m) | none=>none)=_;rw[x];dsimp only;unfold ZnD;rw[h1,C];dsimp only;rw[B];dsimp only;rw[Zu6 (off:=fun i=>(q.getD i (0,0)).1) (fun i p e=>by rw[Gv,e];rfl) _ _ y];rfl
end
section
variable{X:Ctx}{P:GW}{κ ν:Type}[DecidableEq κ]
structure Ziw(P:Program)(kt:TypeId)(kv:κ->Value):Prop where
 pl:∀x,plain (kv x)=true
 ok:∀e x,Zbr P e kt (kv x)=true
 same:∀x,Instr.sameBits 10000 (kv x) (kv x)=true
 eq:∀x y,ZP P (Op.equal kt (kv x) (kv y))=some (.ok (decide (x=y)))
 kind:∃u,P.underlying kt=some u/\((∀x y,Instr.sameNow u (kv x) (kv y)=none)\/∀x y,Instr.sameNow u (kv x) (kv y)=some (decide (x=y)))
def QS(kv:κ->N)(vv:ν->N)(l:U (κ×ν))(bs:U Nat):U V0:=List.zipWith (fun p b=>⟨kv p.1,vv p.2,b⟩) l bs
variable{kt:J}{kv:κ->N}{vv:ν->N}
theorem Zt0(K:Ziw P kt kv)(k:κ):∀(l:U (κ×ν))(bs:U Nat)(i:Nat),bs.length=l.length->ZP P (Instr.findAsking kt (kv k) (QS kv vv l bs) i)=some (.ok ((Yt l k).map fun q=>(i+q.1,vv q.2))):=by
 intro l
 induction l with|nil=>intro bs i _;rfl|cons p l ih=>
   intro bs i h;cases bs with|nil=>cases h|cons b bs=>
     show ZP P (do if <-Op.equal kt (kv k) (kv p.1) then pure (some (i,vv p.2)) else Instr.findAsking kt (kv k) (QS kv vv l bs) (i+1))=_;rw[prb (K.eq k p.1)];unfold Yt;by_cases e:p.1=k;.rw[if_pos e,decide_eq_true e.symm];rfl
     rw[if_neg e,decide_eq_false (fun z=>e z.symm)];show ZP P (Instr.findAsking kt (kv k) (QS kv vv l bs) (i+1))=_;rw[ih bs (i+1) (by simpa using h)];cases Yt l k with|none=>rfl|some q=>simp[GI,Nat.add_comm 1]
theorem ZEN{u:TypeDesc}(m:∀x y,Instr.sameNow u (kv x) (kv y)=some (decide (x=y)))(k:κ):∀(l:U (κ×ν))(bs:U Nat)(i:Nat),bs.length=l.length->Instr.findNow u (kv k) (QS kv vv l bs) i=some ((Yt l k).map fun q=>(i+q.1,vv q.2)):=by
 intro l
 induction l with|nil=>intro bs i _;rfl|cons p l ih=>
   intro bs i h;cases bs with|nil=>cases h|cons b bs=>
     show(match Instr.sameNow u (kv k) (kv p.1) with|some true=>some (some (i,vv p.2)) | some false=>Instr.findNow u (kv k) (QS kv vv l bs) (i+1) | none=>none)=_;rw[m];unfold Yt;by_cases e:p.1=k;.rw[if_pos e,decide_eq_true e.symm];rfl
     rw[if_neg e,decide_eq_false (fun z=>e z.symm)];show Instr.findNow u (kv k) (QS kv vv l bs) (i+1)=_;rw[ih bs (i+1) (by simpa using h)];cases Yt l k with|none=>rfl|some q=>simp[GI,Nat.add_comm 1]
theorem Zio(K:Ziw P kt kv)(k:κ)(l:U (κ×ν))(bs:U Nat)(m:bs.length=l.length):ZnB P kt (kv k) (QS kv vv l bs)=some ((Yt l k).map fun q=>(q.1,vv q.2)):=by
 have⟨u,hu,h⟩:=K.kind;unfold ZnB Instr.findKey;rw[prb (Xi hu)];rcases h with h|h
 .cases l with
  | nil=>cases bs with|nil=>rfl|cons=>cases m
  | cons p l=>
    cases bs with|nil=>cases m|cons b bs=>
      have:Instr.findNow u (kv k) (QS kv vv (p::l) (b::bs)) 0=none:=by
       show(match Instr.sameNow u (kv k) (kv p.1) with|some true=>some (some (0,vv p.2)) | some false=>Instr.findNow u (kv k) (QS kv vv l bs) (0+1) | none=>none)=_;rw[h]
      rw[this];rw[Zt0 K k (p::l) (b::bs) 0 m];simp
 rw[ZEN h k l bs 0 m];simp[G6];rfl
omit [DecidableEq κ] in
theorem ZsR{l l2:U (κ×ν)}{bs b2:U Nat}(hb:bs.length=l.length):QS kv vv (l++l2) (bs++b2)=QS kv vv l bs++QS kv vv l2 b2:=by
 unfold QS;rw[List.zipWith_append hb.symm]
omit [DecidableEq κ] in
theorem ZCX{l:U (κ×ν)}{bs:U Nat}{j:Nat}{p:κ×ν}{b:Nat}(h1:l[j]? =some p)(h2:bs[j]? =some b):(QS kv vv l bs)[j]? =some ⟨kv p.1,vv p.2,b⟩:=by
 unfold QS;rw[List.getElem?_zipWith,h1,h2]
omit [DecidableEq κ] in
theorem ZsP{l:U (κ×ν)}{bs:U Nat}(f:V0->V0)(g:κ×ν->κ×ν)(hfg:∀p b,f ⟨kv p.1,vv p.2,b⟩=⟨kv (g p).1,vv (g p).2,b⟩)(j:Nat):(QS kv vv l bs).modify j f=QS kv vv (l.modify j g) bs:=by
 induction l generalizing bs j with
 | nil=>simp[QS]
 | cons p l ih=>
   cases bs with
   | nil=>simp[QS]
   | cons b bs=>
     cases j with
     | zero=>simp[QS,List.zipWith_cons_cons,List.modify_zero_cons,hfg]
     | succ j=>simp[QS,List.zipWith_cons_cons,List.modify_succ_cons];congr 1;exact ih j
structure MapAt(kv:κ->Value)(vv:ν->Value)(h:H)(m:Option Nat)(l:List (κ×ν)):Prop where
 mem:(m=none/\l=[])\/∃i bs QW,m=some i/\h.at i=.map (QS kv vv l bs) QW/\bs.length=l.length/\bs.Nodup/\∀b∈bs,b<QW
structure ZoG(kv:κ->Value)(vv:ν->Value)(L:Nat)(h:H)(m:Option Nat)(l:List (κ×ν)):Prop where
 at_:MapAt kv vv h m l
 low:∀i,m=some i->i<L
structure Zr2(kv:κ->Value)(vv:ν->Value)(lo:Nat)(h:H)(m:Option Nat)(l:List (κ×ν)):Prop where
 at_:MapAt kv vv h m l
 low:∀i,m=some i->lo<=i
variable{L lo:Nat}{h h':H}{m:O Nat}{l:U (κ×ν)}
theorem map_lt{i:Nat}{es:U V0}{c:Nat}(e:h.at i=.map es c):i<h.size:=X4 e rfl
omit [DecidableEq κ] in
theorem MapAt.lt(s:MapAt kv vv h m l){i:Nat}(e:m=some i):i<h.size:=by
 rcases s.mem with⟨q,_⟩|⟨j,bs,QW,q,h1,_⟩
 ·rw[q]at e;cases e
 ·rw[q]at e;cases e;exact map_lt h1
omit [DecidableEq κ] in
theorem MapAt.keep(s:MapAt kv vv h m l)(k:∀i,m=some i->h'.at i=h.at i):MapAt kv vv h' m l:=
 ⟨s.mem.imp id fun⟨i,bs,QW,q,h1,h2⟩=>⟨i,bs,QW,q,by rw[k i q];exact h1,h2⟩⟩
omit [DecidableEq κ] in
theorem ZoG.fz(s:ZoG kv vv L h m l)(f:Fz L h h'):ZoG kv vv L h' m l:=⟨s.at_.keep fun i e=>f.low i (s.low i e) (s.at_.lt e),s.low⟩
omit [DecidableEq κ] in
theorem MapAt.all(s:MapAt kv vv h m l):ZoG kv vv h.size h m l:=⟨s,fun _ e=>s.lt e⟩
omit [DecidableEq κ] in
theorem Zr2.nil:Zr2 kv vv lo h none ([]:U (κ×ν)):=⟨⟨.inl ⟨rfl,rfl⟩⟩,fun i e=>by cases e⟩
section
variable{V:GZ Oper}{ol:U Oper}{fr:Fr}{ds:U V2}{ty:J}{p:String}{af:GZ Edge}{g:O (Nat×Z)}{d:O Tmp}{vt:J}{ev:GV->O N}
omit [DecidableEq κ] in
theorem Zzr(s:MapAt kv vv h m l):∃bs c,Zkw h (.map m)=some (QS kv vv l bs,c)/\bs.length=l.length:=by
 rcases s.mem with⟨rfl,rfl⟩|⟨i,bs,QW,rfl,h1,h2,_⟩
 ·exact⟨[],0,rfl,rfl⟩
 ·refine⟨bs,QW,?_,h2⟩;unfold Zkw;dsimp only;rw[h1]
theorem ZQz{t:J}{x y:GV}{k:κ}{z:ν}(K:Ziw X.P kt kv)(hu:X.P.underlying t=some (.map kt vt))(r:Xl X.P vt=some (vv z))(B:ev x=some (.map m))(A:ev y=some (kv k))(s:MapAt kv vv h m l):
 Qd X h ev ⟨d,.lookup t x y false,ty,p,af,g⟩=some (.val (vv ((ZQ l k).getD z)),.none):=by
 have⟨bs,c,h1,h2⟩:=Zzr s;show(match ev x,ev y with|some m,some k=>vN (U6 X.P h t m k false) | _,_=>none)=_;rw[B,A];dsimp only
 have:U6 X.P h t (.map m) (kv k) false=some (vv ((ZQ l k).getD z)):=by
  refine Znz ?_;unfold K5;rw[hu,h1];dsimp only;rw[K.ok,Cq1,Zio K k l bs h2];unfold ZQ;cases Yt l k with|some q=>rfl|none=>
    show(match Xl X.P vt with|some z=>some (bif false then Value.tuple #[z,.bool false] else z) | none=>none)=_;rw[r];rfl
 rw[this];rfl
theorem Zzn{t:J}{x y:GV}{k:κ}{z:ν}(K:Ziw X.P kt kv)(hu:X.P.underlying t=some (.map kt vt))(r:Xl X.P vt=some (vv z))(B:ev x=some (.map m))(A:ev y=some (kv k))(s:MapAt kv vv h m l):
 Qd X h ev ⟨d,.lookup t x y true,ty,p,af,g⟩=some (.val (.tuple #[vv ((ZQ l k).getD z),.bool (ZQ l k).isSome]),.none):=by
 have⟨bs,c,h1,h2⟩:=Zzr s;show(match ev x,ev y with|some m,some k=>vN (U6 X.P h t m k true) | _,_=>none)=_;rw[B,A];dsimp only
 have:U6 X.P h t (.map m) (kv k) true=some (.tuple #[vv ((ZQ l k).getD z),.bool (ZQ l k).isSome]):=by
  refine Znz ?_;unfold K5;rw[hu,h1];dsimp only;rw[K.ok,Cq1,Zio K k l bs h2];unfold ZQ;cases Yt l k with|some q=>rfl|none=>
    show(match Xl X.P vt with|some z=>some (bif true then Value.tuple #[z,.bool false] else z) | none=>none)=_;rw[r];rfl
 rw[this];rfl
theorem Ze8{t:J}{x y:GV}{k:κ}{z v:ν}{w:N}(K:Ziw X.P kt kv)(hu:X.P.underlying t=some (.map kt vt))(q:Xl X.P vt=some (vv z))(A:ev x=some (.map m))(r:ev y=some (kv k))(s:MapAt kv vv h m l)(hv:Zkq l k z=some v)(hw:vv v=w):
 Qd X h ev ⟨d,.lookup t x y false,ty,p,af,g⟩=some (.val w,.none):=by
 rw[ZQz K hu q A r s,Oi0 hv,hw]
theorem ZFQ{t:J}{x y:GV}{k:κ}{z:ν}{v:ν×Z}{w:N}(K:Ziw X.P kt kv)(hu:X.P.underlying t=some (.map kt vt))(q:Xl X.P vt=some (vv z))(A:ev x=some (.map m))(r:ev y=some (kv k))(s:MapAt kv vv h m l)(hv:ZCs l k z=some v)(hw:vv v.1=w):
 Qd X h ev ⟨d,.lookup t x y true,ty,p,af,g⟩=some (.val (.tuple #[w,.bool v.2]),.none):=by
 have:=Oi0 hv;subst this;rw[Zzn K hu q A r s,hw]
theorem Zzh{i:Nat}{es es':U V0}{c c':Nat}(hw:L<=i)(h1:h.at i=.map es c):Eff.apply L h (.upd i (.map es' c'))=some (h.put i (.map es' c')):=by show(bif Nat.ble L i&&(h.at i).own then some (h.put i _) else none)=_;rw[h1,Nm0 hw];rfl
theorem ZB0{i:Nat}{es:U V0}{c:Nat}{A:YN}(l:lo<=i)(h1:h.at i=.map es c):Up lo (fun j=>some i=some j) h (h.put i A):=
 ⟨K2 _,fun j _ hn=>XE (fun q=>hn (by rw[q])) A,fun j e=>by cases e;exact⟨l,by rw[h1];rfl⟩⟩
theorem ZMK{fr:Fr}{t:J}{x y z:GV}{k:κ}{v:ν}(K:Ziw X.P kt kv)(hu:X.P.underlying t=some (.map kt vt))(hw:L<=lo)(hx:YM fr x=some (.map m))(hm:m.isSome=true)(W:YM fr y=some (kv k))(V:YM fr z=some (vv v))(s:Zr2 kv vv lo h m l):
 ∃S,SU X L ⟨d,.mapUpdate t x y z,ty,p,af,g⟩ fr h S true/\Up lo (fun j=>m=some j) h S/\Zr2 kv vv lo S m (Xh l k v):=by
 obtain⟨i,rfl⟩:=GJ.1 hm;have r:=s.low i rfl;rcases s.at_.mem with⟨q,_⟩|⟨j,bs,B,q,h1,h2,T,Q⟩
 .cases q
 cases q
 have key:∀E,Qo X.P h t (.map (some i)) (kv k) (vv v)=some E->Qd X h (YM fr) ⟨d,.mapUpdate t x y z,ty,p,af,g⟩=some (.skip,E):=fun E hE=>by
  show(match YM fr x,YM fr y,YM fr z with|some m,some k,some x=>sE (Qo X.P h t m k x) | _,_,_=>none)=_;rw[hx,W,V];dsimp only;rw[hE];rfl
 have D:Zkw h (.map (some i))=some (QS kv vv l bs,B):=by unfold Zkw;dsimp only;rw[h1]
 cases e:Yt l k with
 | some q=>
   have G:=Zcy e;have F:q.1<bs.length:=by rw[h2];exact(Li0 G).1
   have I:bs[q.1]? =some bs[q.1]:=G4 F
   have C:(QS kv vv l bs).modify q.1 (fun e=>{e with key:=kv k,val:=vv v})=QS kv vv (l.modify q.1 fun p=>(p.1,v)) bs:=by
    have h5:(QS kv vv l bs).modify q.1 (fun e=>{e with key:=kv k,val:=vv v})=QS kv vv (l.modify q.1 fun _=>(k,v)) bs:=ZsP _ _ (fun p b=>rfl) _;rw[h5];congr 1;apply GO;intro n;rw[List.getElem?_modify,List.getElem?_modify];by_cases hn:q.1=n;.subst hn;rw[G];simp
    simp[hn]
   refine⟨_,⟨.upd i (.map (QS kv vv (l.modify q.1 fun p=>(p.1,v)) bs) B),key _ ?_,Zzh (KK hw r) h1,fun z=>by cases z⟩,ZB0 r h1,⟨⟨.inr ⟨i,bs,B,rfl,?_,?_,T,Q⟩⟩,s.low⟩⟩;.refine ZfI ?_;unfold Q7;rw[hu,D];dsimp only;rw[K.ok,Cq1,Zio K k l bs h2,e];dsimp only[Option.map_some];rw[ZCX G I];dsimp only;rw[K.same,Cq1,C]
   .rw[YD (map_lt h1)];unfold Xh;rw[e]
   unfold Xh;rw[e];simpa using h2
 | none=>
   refine⟨_,⟨.upd i (.map (QS kv vv (l++[(k,v)]) (bs++[B])) (B+1)),key _ ?_,Zzh (KK hw r) h1,fun z=>by cases z⟩,ZB0 r h1,⟨⟨.inr ⟨i,bs++[B],B+1,rfl,?_,?_,?_,?_⟩⟩,s.low⟩⟩;.refine ZfI ?_;unfold Q7;rw[hu,D];dsimp only;rw[K.ok,Cq1,Zio K k l bs h2,e,ZsR h2];rfl
   .rw[YD (map_lt h1)];unfold Xh;rw[e]
   .unfold Xh;rw[e];simp[h2]
   .rw[List.nodup_append];exact⟨T,by simp,fun a ha b A=>by simp at A;subst A;exact Nat.ne_of_lt (Q a ha)⟩
   intro b A;rw[J0]at A;rcases A with A|A
   .have:=Q b A;omega
   simp at A;omega
end
end
def ZQh{e:Z}{t:J}{v:N}{d:Nat}(hu:P.underlying t=some .string):ZP P (Instr.checkKey e (d+1) t v)=some (.ok ()):=by unfold Instr.checkKey;rw[prb (Xi hu)];rfl
section
variable{X:Ctx}{n L lo:Nat}{Q:XX->Fs->Prop}{fr:Fr}{ds:U V2}{h:H}
structure BdK(n lo l:Nat)(fr:Fr)(ps:Array Tmp)(YK bd:Code)(df:Nat)(R:H->Prop)(e:XX)(s:Fs):Prop where
 out:e=.normal/\s.h.at l=.loop .busy none fr n ps YK bd df/\∀h',(lo<=l->Up lo (fun i=>i=l) s.h h')->h'.at l=.loop .ready none fr n ps YK bd df->R h'
structure AsK(X:Ctx)(n L lo l:Nat)(fr:Fr)(ps:Array Tmp)(YK bd:Code)(df:Nat)(R:H->Prop)(e:XX)(s:Fs):Prop where
 out:e=.normal/\s.h.at l=.loop .ready none fr n ps YK bd df/\∀h1,(lo<=l->Up lo (fun i=>i=l) s.h h1)->h1.at l=.loop .busy none fr n ps YK bd df->WC X n L (some l) bd ⟨s.fr,s.ds,h1,s.wr⟩ (BdK n lo l fr ps YK bd df R)
def BdK.mk'{l:Nat}{fr t:Fr}{m:GZ Tmp}{YK r:Code}{q:Nat}{R:H->Prop}(h1:h.at l=.loop .busy none fr n m YK r q)(k:∀p,(lo<=l->Up lo (fun i=>i=l) h p)->p.at l=.loop .ready none fr n m YK r q->R p):BdK n lo l fr m YK r q R .normal ⟨t,ds,h,none⟩:=⟨⟨rfl,h1,k⟩⟩
def AsK.mk'{l:Nat}{fr r:Fr}{p:GZ Tmp}{YK m:Code}{q:Nat}{R:H->Prop}(h1:h.at l=.loop .ready none fr n p YK m q)(k:∀h1,(lo<=l->Up lo (fun i=>i=l) h h1)->h1.at l=.loop .busy none fr n p YK m q->WC X n L (some l) m ⟨r,ds,h1,none⟩ (BdK n lo l fr p YK m q R)):AsK X n L lo l fr p YK m q R .normal ⟨r,ds,h,none⟩:=⟨⟨rfl,h1,k⟩⟩
def Zve(X:Ctx)(l:Nat)(args:GZ N)(L:Nat)(h:H)(R:Z->H->Prop):Prop:=∃b m,R b m/\YW X (.round l args L h) (.fin (.ret (.bool b)) m)
def Zve.mk'{l:Nat}{args:U N}{fr fr1:Fr}{m:GZ Tmp}{YK p:Code}{q:Nat}{R:H->Prop}(lo:Nat)(y:h.at l=.loop .ready none fr n m YK p q)(hw:L<=l)(x:Nat.beq args.length m.toList.length=true)(B:Qz (m.toList.zip args) n fr=some fr1)
 (k:WC X n L (some l) YK ⟨fr1,[],h,none⟩ (AsK X n L lo l fr m YK p q R)):Zve X l args.toArray L h (fun b S=>b=true/\R S):=by
 obtain⟨W,s1,⟨rfl,h1,k1⟩,K⟩:=k;have G:(s1.h.at l).own=true:=by rw[h1];rfl
 have t:=X4 h1 rfl;obtain⟨V,s2,⟨rfl,h2,k2⟩,I⟩:=k1 (s1.h.put l (.loop .busy none fr n m YK p q)) (fun x=>Up.put x G) (YD t _);have F:(s2.h.at l).own=true:=by rw[h2];rfl
 refine⟨true,s2.h.put l (.loop .ready none fr n m YK p q),⟨rfl,k2 _ (fun x=>Up.put x F) (YD (X4 h2 rfl) _)⟩,?_⟩
 classical
 let ih:Jz->O Xr:=fun j=>if j=.code YK n L (some l) ⟨fr1,[],h,none⟩ then some (.code .normal s1) else JF (.code p n L (some l) {s1 with h:=s1.h.put l (.loop .busy none fr n m YK p q)}) (.code .normal s2) j
 have T:∀j r,ih j=some r->YW X j r:=by
  intro j r e;dsimp only[ih]at e;split at e
  ·rename_i E;cases e;rw[E];exact K
  exact XH (X:=X) I j r e
 refine KO (C:=cfg X fun _=>false) (ih:=ih) T ?_;unfold ZcO;rw[y];have D:Nat.beq args.toArray.toList.length m.toList.length=true:=x;dsimp only;rw[Nm0 hw,D];simp[Bool.and_self,Cq1];have A:Qz (m.toList.zip args.toArray.toList) n fr=some fr1:=B;rw[A];dsimp only;have Q:ih (.code YK n L (some l) {fr:=fr1,ds:=[],h:=h})=some (.code .normal s1):=by dsimp only[ih];rw[if_pos rfl]
 rw[Q];show Ke ih l p n L .normal s1=_;unfold Ke;dsimp only;rw[h1];dsimp only
 have P:ih (.code p n L (some l) {s1 with h:=s1.h.put l (.loop .busy none fr n m YK p q)})=some (.code .normal s2):=by
  dsimp only[ih];split
  ·rename_i E;exfalso;injection E with _ _ _ _ B
   have:({s1 with h:=s1.h.put l (.loop .busy none fr n m YK p q)}:Fs).h.at l=h.at l:=by rw[B]
   dsimp only at this;rw[YD t,y]at this;cases this
  exact XI _ _
 rw[P];show Jp l .normal s2=_;unfold Jp;rw[h2]
section
variable{V:GZ Oper}{ol:U Oper}{d:Nat}{ty:J}{p:String}{af:GZ Edge}{g:O (Nat×Z)}{rd:O Nat}
def WO.round{l:Nat}{args:GZ N}{E:Eff}{v:N}{h1 h2:H}{m:Op}(r:Yh V ⟨some d,m,ty,p,af,g⟩ fr)(t:Nat.blt d n=true)(y:Qd X h (YM fr) ⟨some d,m,ty,p,af,g⟩=some (.round l args,E))(A:E.apply L h=some h1)
 (x:YW X (.round l args L h1) (.fin (.ret v) h2)) (k:WO X n L rd V ol ⟨Tr.set fr d v,ds,h2,none⟩ Q):WO X n L rd V (⟨some d,m,ty,p,af,g⟩::ol) ⟨fr,ds,h,none⟩ Q:=by
 have q:Znd n (some d)=true:=t;refine WO.cons (XH x) (s1:=⟨Tr.set fr d v,ds,h2,none⟩) ?_ k;unfold UN;rw[r.1,r.2];dsimp only[Q1,Cq0,Cq1];rw[y];dsimp only[Q1,Cq0,Cq1];rw[A];unfold Zay;dsimp only[Uo,Cq0];rw[XI];dsimp only;rw[Zik q];rfl
def WO.yld{l:Nat}{t:GV}{xs:GZ GV}{ts:GZ J}{vs:U N}{R:Z->H->Prop}{y:LoopState}{A:O Code}{r:Fr}{B:Nat}{x:GZ Tmp}{YK S:Code}{P:Nat}
 (G:Yh V ⟨some d,.call {callee:=.value t,args:=xs,argTypes:=ts},ty,p,af,g⟩ fr) (K:Nat.blt d n=true) (I:YM fr t=some (.func (.yield l) #[] #[])) (C:evs (YM fr) xs.toList=some vs)
 (q:h.at l=.loop y A r B x YK S P) (F:vs.length=x.toList.length) (D:Zve X l vs.toArray L h R) (k:∀b m,R b m->WO X n L rd V ol ⟨Tr.set fr d (.bool b),ds,m,none⟩ Q):
 WO X n L rd V (⟨some d,.call {callee:=.value t,args:=xs,argTypes:=ts},ty,p,af,g⟩::ol) ⟨fr,ds,h,none⟩ Q:=by
 have⟨b,m,hR,hj⟩:=D;refine WO.round (E:=.none) G K ?_ rfl hj (k b m hR);rw[Zfa,C];dsimp only;rw[I];dsimp only;unfold WB;dsimp only;rw[q];dsimp only;rw[F,Nat.beq_refl];rfl
def WO.Wl{o:Oper}{c:Z}(_:Zh V o fr c)(h1:c=true->WO X n L rd V (o::ol) ⟨fr,ds,h,none⟩ Q)(h2:c=false->WO X n L rd V (o::ol) ⟨fr,ds,h,none⟩ Q):WO X n L rd V (o::ol) ⟨fr,ds,h,none⟩ Q:=by
 cases c;.exact h2 rfl
 exact h1 rfl
def Zh.on{o:Oper}{c:Z}(h:Zh V o fr c)(l:c=true):Yh V o fr:=⟨h.1,h.2.trans l⟩
def Zh.off{o:Oper}{c:Z}(h:Zh V o fr c)(l:c=false):Zix V o fr:=⟨h.1,h.2.trans l⟩
end
structure Yi(X:Ctx)(fn:Func)(L:Nat)(Q:Kn->H->Prop)(e:XX)(s:Fs):Prop where
 out:∃pm E h',xPM e=some pm/\Q E h'/\YW X (.leave fn L pm s) (.fin E h')
def WF.ZP6{f:GX}{fn:Func}{c:Code}{args:GZ N}{Q:Kn->H->Prop}(C:X.fns.get f=some fn)(F:fn.body=some c)(hn:args.toList.length<=fn.ntmps)
 (k:WC X fn.ntmps L none c {fr:=QN args.toList 0 .nil,ds:=[],h:=h} (Yi X fn L Q)):WF X f args L h Q:=by
 have⟨e,s',⟨pm,E,h',hpm,hq,hj⟩,ka⟩:=k;refine⟨E,h',hq,?_⟩;intro ρ p w y x hv
 have D:Inv ρ fn.ntmps {fr:=QN args.toList 0 .nil,ds:=[],h:=h} {tmps:=p++Array.replicate (fn.ntmps-p.size) undef,defers:=[]} w:=
  ⟨x,KM hv hn,.nil⟩
 refine callsIn_of_wp_marks (X.ok f fn C).1 F (Zi3 C) (wpIn_mono (ka ρ _ w base y D rfl) ?_);rintro G B w' ⟨q,he,r,m⟩;cases he with
 | normal=>cases hpm;exact hj q _ B .returning w' _ (KK y m.size) r .ret (fun _ _ t=>Kk.trans x.lt m t)
 | ret=>cases hpm;exact hj q _ B .returning w' _ (KK y m.size) r .ret (fun _ _ t=>Kk.trans x.lt m t)
 | panic A=>cases hpm;exact hj q _ B _ w' _ (KK y m.size) r (.Yq A) (fun _ _ t=>Kk.trans x.lt m t)
 | exit id=>cases hpm
 | goto l=>cases hpm
def WF.Jv{f:GX}{fn:Func}{c:Code}{args:U N}{n:Nat}{R:Kn->H->Prop}(m:X.fns.get f=some fn)(p:fn.body=some c)(l:fn.ntmps=n)(hn:args.length<=n)
 (k:WC X n L none c ⟨QN args 0 .nil,[],h,none⟩ (Yi X fn L R)):WF X f args.toArray L h R:=by
 subst l;exact WF.ZP6 m p hn k
def ZAm{fn:Func}{v:N}{wr:O Nat}(hv:JB X.P fn fr h=some v):YW X (.leave fn L .ret ⟨fr,[],h,wr⟩) (.fin (.ret v) h):=by refine Ua (C:=cfg X fun _=>false) (ih:=fun _=>none) (fun _ _ h=>by cases h) ?_;have l:JB (cfg X fun _=>false).X.P fn fr h=some v:=hv;unfold U4;simp[l]
def Zo4{fn:Func}{l:PM}{r:Nat}{wr:O Nat}{E:Kn}{p:H}(m:h.at r=.deferred)(hw:L<=r)(q:YW X (.leave fn L l ⟨fr,ds,h.put r .dead,wr⟩) (.fin E p)):YW X (.leave fn L l ⟨fr,⟨.collected r,#[]⟩::ds,h,wr⟩) (.fin E p):=by refine Ua (C:=cfg X fun _=>false) (ih:=JF (.leave fn L l ⟨fr,ds,h.put r .dead,wr⟩) (.fin E p)) (XH q) ?_;unfold U4;dsimp only;rw[m];dsimp only;rw[Nm0 hw,Cq1];exact XI _ _
def Yi.gen{fn:Func}{R:N->H->Prop}{l:U ResultVar}{vs:U N}{v:N}(m:fn.results.toList=l)(hv:Zeh X.P fr h l=some vs)(p:(match vs with | [v]=>v|vs=>.tuple vs.toArray)=v)(k:R v h):Yi X fn L (fun e q=>∃v,e=.ret v/\R v q) .ret ⟨fr,[],h,none⟩:=by refine⟨⟨.ret,.ret v,h,rfl,⟨v,rfl,k⟩,ZAm ?_⟩⟩;unfold JB;rw[m,hv,<-p];match vs with|[]=>rfl|[_]=>rfl|_::_::_=>rfl
def Yi.col{fn:Func}{R:Kn->H->Prop}{r:Nat}(lo:Nat)(p:lo<=r)(l:h.at r=.deferred)(hw:L<=r)(k:∀m,Up lo (fun i=>i=r) h m->Yi X fn L R .ret ⟨fr,ds,m,none⟩):Yi X fn L R .ret ⟨fr,⟨.collected r,#[]⟩::ds,h,none⟩:=by have hu:Up lo (fun i=>i=r) h (h.put r .dead):=Up.put p (by rw[l];rfl);have⟨pm,E,m,hpm,hq,hj⟩:=(k _ hu).out;cases hpm;exact⟨⟨.ret,E,m,rfl,hq,Zo4 l hw hj⟩⟩
def Yi.Yx{fn:Func}{R:Kn->H->Prop}{s:Fs}(k:Yi X fn L R .ret s):Yi X fn L R .normal s:=by have⟨pm,E,h',hpm,hq⟩:=k.out;cases hpm;exact⟨⟨.ret,E,h',rfl,hq⟩⟩
def WO.Ql{V:GZ Oper}{m:U Oper}{d:Nat}{l:Op}{ty:J}{p:String}{af:GZ Edge}{g:O (Nat×Z)}{rd:O Nat}{c:Z}(q:Zh V ⟨some d,l,ty,p,af,g⟩ fr c)(t:c=false)(r:Nat.blt d n=true)(k:WO X n L rd V m ⟨Tr.set fr d undef,ds,h,none⟩ Q):
 WO X n L rd V (⟨some d,l,ty,p,af,g⟩::m) ⟨fr,ds,h,none⟩ Q:=WO.o (q.off t) r k
def Zbh{ev:GV->O N}{d:O Tmp}{ty:J}{p:String}{af:GZ Edge}{g:O (Nat×Z)}{f:GX}{xs:GZ GV}{vs:U N}(l:evs ev xs.toList=some vs):Qd X h ev ⟨d,.makeFunc (.func f) #[] xs,ty,p,af,g⟩=some (.val (.func (.func f) #[] vs.toArray),.none):=by show(bif Zqz (.func f) then none else match evs ev [],evs ev xs.toList with|some vs,some us=>some (AN.val (.func (.func f) vs.toArray us.toArray),Eff.none) | _,_=>none)=_;rw[l];rfl
end
def ZvP{h:H}{i:Nat}(e:(h.at i).own=true):i<h.size:=by
 rcases Gl i h.size with z|z
 .exact z
 rw[H.Zeg z]at e;cases e
structure Ast(L:Nat) where
 P:H->Prop
 fp:Nat->Prop
 loc:∀{h h':H},Fz L h h'->(∀i,fp i->h'.at i=h.at i)->P h->P h'
 own:∀{h:H}{i:Nat},P h->fp i->L<=i/\(h.at i).own=true
def Dj{L:Nat}(A B:Ast L):Prop:=∀i,A.fp i->B.fp i->False
def Dj.symm{L:Nat}{A B:Ast L}(h:Dj A B):Dj B A:=fun i a b=>h i b a
structure Z0{L:Nat}(G:List (Ast L))(h:H):Prop where
 all:∀A∈G,A.P h
 dis:G.Pairwise Dj
def JO{L:Nat}(G:U (Ast L))(i:Nat):Prop:=∃A∈G,A.fp i
structure Sp(L:Nat)(T:Nat->Prop)(h0:H)(G:List (Ast L))(h:H):Prop where
 wl:L<=h0.size
 fz:Fz L h0 h
 keep:∀i,i<h0.size->¬ T i->h.at i=h0.at i
 hold:Z0 G h
 inn:∀i,JO G i->T i\/h0.size<=i
inductive Pk{α:Type}:List α->α->List α->Prop
 | z {A:α} {G:List α}:Pk (A::G) A G
 | s {A B:α} {G G':List α}:Pk G A G'->Pk (B::G) A (B::G')
def Pk.perm{h:Type}{G l:U h}{A:h}(p:Pk G A l):G.Perm (A::l):=by induction p with|z=>exact List.Perm.refl _|s _ ih=>exact(List.Perm.cons _ ih).trans (List.Perm.swap _ _ _)
def Pk.mem{h:Type}{G l:U h}{A:h}(p:Pk G A l):A∈G:=p.perm.mem_iff.2 Vd
inductive Sel{α:Type}:List α->List α->List α->Prop
 | n {G:List α}:Sel G [] G
 | c {A:α} {G G1 Ga Gr:List α}:Pk G A G1->Sel G1 Ga Gr->Sel G (A::Ga) Gr
def Sel.perm{h:Type}{G Ga Gr:U h}(p:Sel G Ga Gr):G.Perm (Ga++Gr):=by induction p with|n=>exact List.Perm.refl _|c p _ ih=>exact p.perm.trans (List.Perm.cons _ ih)
section
variable{L:Nat}{G Ga Gb Gr:U (Ast L)}{h h' h0:H}{T t:Nat->Prop}{A B:Ast L}
def Z0.perm(p:G.Perm Ga)(s:Z0 G h):Z0 Ga h:=⟨fun A m=>s.all A (p.mem_iff.2 m),(p.pairwise_iff (fun h=>Dj.symm h)).1 s.dis⟩
def Z0.left(s:Z0 (Ga++Gr) h):Z0 Ga h:=⟨fun A m=>s.all A (J0.2 (.inl m)),(List.pairwise_append.1 s.dis).1⟩
def Z0.right(s:Z0 (Ga++Gr) h):Z0 Gr h:=⟨fun A m=>s.all A (J0.2 (.inr m)),(List.pairwise_append.1 s.dis).2.1⟩
def Z0.nil:Z0 ([]:U (Ast L)) h:=⟨fun _ m=>by simp at m,.nil⟩
def Z0.one(a:A.P h):Z0 [A] h:=⟨fun _ m=>by rw[Gf.1 m];exact a,List.pairwise_singleton _ _⟩
def JO.perm(p:G.Perm Ga){i:Nat}(s:JO G i):JO Ga i:=let⟨A,m,f⟩:=s;⟨A,p.mem_iff.1 m,f⟩
def Z0.own(s:Z0 G h){i:Nat}(f:JO G i):L<=i/\(h.at i).own=true:=let⟨A,m,f⟩:=f;A.own (s.all A m) f
def Sp.perm(p:G.Perm Ga)(s:Sp L T h0 G h):Sp L T h0 Ga h:=⟨s.wl,s.fz,s.keep,s.hold.perm p,fun i f=>s.inn i (f.perm p.symm)⟩
def Sp.size(s:Sp L T h0 G h):h0.size<=h.size:=s.fz.size
def Sp.hw(s:Sp L T h0 G h):L<=h.size:=KK s.wl s.fz.size
def Sp.Vc{g:H}(s:Sp L T h0 G h)(e:g.size=h.size):L<=g.size:=by rw[e];exact s.hw
def Sp.start(hw:L<=h.size)(s:Z0 G h):Sp L (JO G) h G h:=⟨hw,Fz.refl _ _,fun _ _ _=>rfl,s,fun _ f=>.inl f⟩
def Sp.step(s:Sp L T h0 (Ga++Gr) h)(u:Up L t h h')(y:∀i,t i->JO Ga i)(E:Z0 Gb h')(D:∀i,JO Gb i->JO Ga i\/h.size<=i):Sp L T h0 (Gb++Gr) h':=by
 have F:=(List.pairwise_append.1 s.hold.dis).2.2;have l:∀i,JO Ga i->JO Gr i->False:=fun i ⟨A,m,f⟩ ⟨B,p,f'⟩=>F A m B p i f f';have r:=s.hold.right;refine⟨s.wl,s.fz.trans (u.fz V7),fun i C hn=>?_,⟨fun A m=>?_,?_⟩,fun i f=>?_⟩
 .have x:¬ t i:=fun q=>by
   rcases s.inn i (by have⟨A,m,f⟩:=y i q;exact⟨A,J0.2 (.inl m),f⟩) with z|z
   .exact hn z
   omega
  rw[u.keep i (J1 C s.size) x,s.keep i C hn]
 .rcases J0.1 m with m|m
  .exact E.all A m
  exact A.loc (u.fz V7) (fun i f=>u.keep i (ZvP (A.own (r.all A m) f).2) (fun q=>l i (y i q) ⟨A,m,f⟩)) (r.all A m)
 .refine List.pairwise_append.2 ⟨E.dis,r.dis,fun B m A p i f f'=>?_⟩;rcases D i ⟨B,m,f⟩ with z|z
  .exact l i z ⟨A,p,f'⟩
  exact absurd (ZvP (A.own (r.all A p) f').2) (Nat.not_lt_of_le z)
 have⟨A,m,f⟩:=f;rcases J0.1 m with m|m
 .rcases D i ⟨A,m,f⟩ with⟨B,p,f'⟩|z
  .exact s.inn i ⟨B,J0.2 (.inl p),f'⟩
  exact .inr (KK s.size z)
 exact s.inn i ⟨A,J0.2 (.inr m),f⟩
def Sp.new(s:Sp L T h0 Gr h)(u:Up L (fun _=>False) h h')(p:B.P h')(l:∀i,B.fp i->h.size<=i):Sp L T h0 (B::Gr) h':=
 Sp.step (Ga:=[]) (Gb:=[B]) s u (fun _ z=>z.elim) (Z0.one p) fun i ⟨A,m,f⟩=>by rw[Gf.1 m]at f;exact .inr (l i f)
def Sp.up(s:Sp L T h0 Gr h)(u:Up L (fun _=>False) h h'):Sp L T h0 Gr h':=
 Sp.step (Ga:=[]) (Gb:=[]) s u (fun _ z=>z.elim) Z0.nil fun i ⟨A,m,f⟩=>by simp at m
def Sp.one(p:Pk G A Gr)(s:Sp L T h0 G h)(u:Up L t h h')(l:∀i,t i->A.fp i)(x:B.P h')(r:∀i,B.fp i->A.fp i\/h.size<=i):Sp L T h0 (B::Gr) h':=
 Sp.step (Ga:=[A]) (Gb:=[B]) (s.perm p.perm) u (fun i q=>⟨A,by simp,l i q⟩) (Z0.one x) fun i ⟨C,m,f⟩=>by
   rw[Gf.1 m]at f;exact(r i f).imp (fun z=>⟨A,by simp,z⟩) id
def Sp.get(s:Sp L T h0 G h)(p:Pk G A Gr):A.P h:=s.hold.all A p.mem
def Sp.only(p:Sel G Ga Gr)(s:Sp L T h0 G h):Sp L T h0 Ga h:=by have s:=s.perm p.perm;exact⟨s.wl,s.fz,s.keep,s.hold.left,fun i ⟨B,m,f⟩=>s.inn i ⟨B,by simp[m],f⟩⟩
def Sp.add(s:Sp L T h0 G h)(p:A.P h)(l:∀i,¬ A.fp i):Sp L T h0 (A::G) h:=
 ⟨s.wl,s.fz,s.keep,⟨fun B m=>by rcases Ks.1 m with m|m;· rw[m];exact p
                                .exact s.hold.all B m,List.pairwise_cons.2 ⟨fun B _ i f _=>l i f,s.hold.dis⟩⟩,fun i ⟨B,m,f⟩=>by
   rcases Ks.1 m with m|m
   .rw[m]at f;exact absurd f (l i)
   exact s.inn i ⟨B,m,f⟩⟩
def Sp.say(s:Sp L T h0 (Ga++Gr) h)(m:Z0 Gb h)(l:∀i,JO Gb i->JO Ga i):Sp L T h0 (Gb++Gr) h:=
 Sp.step (t:=fun _=>False) s ⟨K2 _,fun _ _ _=>rfl,fun _ z=>z.elim⟩ (fun _ z=>z.elim) m fun i f=>.inl (l i f)
def Sp.call(p:Sel G Ga Gr)(s:Sp L T h0 G h)(c:Sp L (JO Ga) h Gb h'):Sp L T h0 (Gb++Gr) h':=by have s:=s.perm p.perm;exact Sp.step s ⟨c.size,c.keep,fun i f=>s.hold.left.own f⟩ (fun _ q=>q) c.hold c.inn
def Sp.ZcE(p:Sel G Ga Gr)(s:Sp L T h0 G h):Z0 Ga h:=(s.hold.perm p.perm).left
end
def bx(L b:Nat)(cs:U N):Ast L where
 P:=fun h=>h.at b=.row cs true 0/\L<=b
 fp:=fun i=>i=b
 loc:=fun _ k ⟨h1,h2⟩=>⟨by rw[k b rfl,h1],h2⟩
 own:=fun⟨h1,h2⟩ e=>by subst e;exact⟨h2,by rw[h1];rfl⟩
def ow{q:Type}(L:Nat)(e:WG q)(a:O Addr)(n c:Nat)(xs:U q):Ast L where
 P:=fun h=>n=xs.length/\Ko e L L h a c xs
 fp:=Um a
 loc:=fun f k ⟨h1,s⟩=>⟨h1,s.max,s.mem.imp id fun⟨i,o,cs,l,p,m,x,t,r⟩=>⟨i,o,cs,l,p,by rw[k i ⟨o,l⟩,m],x,t,r.mono f⟩⟩
 own:=fun⟨_,s⟩ ⟨o,e⟩=>by
  rcases s.mem with⟨h1,_⟩|⟨i,y,cs,l,p,m,_⟩
  .rw[h1]at e;cases e
  rw[l]at e;cases e;exact⟨p,by rw[m];rfl⟩
def mp{r p:Type}(L:Nat)(kv:r->N)(vv:p->N)(m:O Nat)(l:U (r×p)):Ast L where
 P:=fun h=>Zr2 kv vv L h m l
 fp:=fun i=>m=some i
 loc:=fun _ k s=>⟨s.at_.keep k,s.low⟩
 own:=fun{h i} s e=>⟨s.low i e,by
  rcases s.at_.mem with⟨q,_⟩|⟨j,bs,t,q,h1,_⟩
  .rw[q]at e;cases e
  rw[q]at e;cases e;rw[h1];rfl⟩
def Yp{l:Type}(L:Nat)(r:WG l)(p:r.Par)(x:l):Ast L where
 P:=fun h=>r.F L h p x
 fp:=fun _=>False
 loc:=fun f _ s=>r.mono f s
 own:=fun _ z=>z.elim
def ob(L b:Nat)(A:YN):Ast L where
 P:=fun h=>h.at b=A/\L<=b/\A.own=true
 fp:=fun i=>i=b
 loc:=fun _ k ⟨h1,h2⟩=>⟨by rw[k b rfl,h1],h2⟩
 own:=fun⟨h1,h2,l⟩ e=>by subst e;exact⟨h2,by rw[h1];exact l⟩
variable{L:Nat}{G Gr:U (Ast L)}{h h0:H}{T:Nat->Prop}
def Sp.Ug{b:Nat}{cs:U N}(s:Sp L T h0 G h)(p:Pk G (bx L b cs) Gr):At h b 0 cs:=At.box (s.get p).1
def Sp.lt{b:Nat}{cs:U N}(s:Sp L T h0 G h)(p:Pk G (bx L b cs) Gr):b<h.size:=X4 (s.get p).1 rfl
def Sp.QA{l:Type}{e:WG l}{a:O Addr}{n c:Nat}{xs:U l}(s:Sp L T h0 G h)(p:Pk G (ow L e a n c xs) Gr):Src e L h a c xs:=(s.get p).2.src
def Sp.ord{l:Type}{e:WG l}{a:O Addr}{n c:Nat}{xs:U l}(s:Sp L T h0 G h)(p:Pk G (ow L e a n c xs) Gr):Sl e h.size h a c xs:=(s.QA p).sl s.hw
def Sp.on{l:Type}{e:WG l}{a:O Addr}{n c:Nat}{xs:U l}(s:Sp L T h0 G h)(p:Pk G (ow L e a n c xs) Gr):n=xs.length:=(s.get p).1
def Sp.mrd{r q:Type}{kv:r->N}{vv:q->N}{m:O Nat}{l:U (r×q)}(s:Sp L T h0 G h)(p:Pk G (mp L kv vv m l) Gr):ZoG kv vv h.size h m l:=MapAt.all (s.get p).at_
def Sp.sl{l:Type}{e:WG l}{a:O Addr}{c:Nat}{xs:U l}(s:Sp L T h0 G h)(f:Sl e L h0 a c xs):Sl e L h a c xs:=f.mono s.fz
def Sp.WI{l:Type}{e:WG l}{a:O Addr}{c:Nat}{xs:U l}(s:Sp L T h0 G h)(f:Sl e L h0 a c xs):Sl e h.size h a c xs:=(f.mono s.fz).up s.hw
section
variable{n:Nat}{rd:O Nat}{V:GZ Oper}{l:U Oper}{fr:Fr}{ds:U V2}{h1 h2:H}{ty:J}{p:String}{af:GZ Edge}{g:O (Nat×Z)}{m:Nat}
def VV(h h2:H)(xs:U Nat)(x:Nat):Prop:=(x<h.size/\x∈xs)\/h2.size<=x
structure ST where
 s:List (Nat×(Nat->Prop))
 m:List (Nat×(Nat->Prop))
 p:List (Nat×Nat×Nat×(YN->Prop))
def ST.nil:ST:=⟨[],[],[]⟩
structure ZWN(X:Ctx)(n L:Nat)(rd:Option Nat)(V:Array Oper)(o:Oper)(T:Nat->Prop)(xs:List Nat)(h:H)(fr:Fr)(v:Value)(h2:H):Prop where
 run:L<=h.size->∃h1,h2=Jf xs h h1/\JK X.P L rd V o T fr (mask xs h) v h1/\WH T (mask xs h) h1
 wmT:∀x,T x->L<=x
 dst:∀d,o.dst=some d->d<n
 hl:Yu o=true->(∀x,¬ T x)/\h2=h/\∀g,JK X.P L rd V o (fun _=>False) fr g v g
 mx:∀x,T x->x<h.size->x∉xs
abbrev Cmp(V:GZ Oper)(i j:Nat):Prop:=comp (Jh V.toList 0 []) i j=true
abbrev PsT:=O (Nat×Nat×(YN->Prop))
structure WE(X:Ctx)(n L:Nat)(rd:Option Nat)(V:Array Oper)(sf:ST)(m:Nat)(h:H)(l:List Oper)(fr:Fr)(Q:Fr->H->Prop):Prop where
 out:∃(hs:Nat->H) (fs:Nat->Fr) (vs:Nat->Value) (Ts:Nat->Nat->Prop) (xs:Nat->List Nat) (ps:Nat->PsT),hs 0=h/\fs 0=fr/\Q (fs l.length) (hs l.length)/\∀k o,l[k]? =some o ->
  ZWN X n L rd V o (Ts k) (xs k) (hs k) (fs k) (vs k) (hs (k+1))/\fs (k+1)=UO (fs k) o.dst (vs k)/\
  (∀x,Ts k x->x<(hs k).size->∀i o',i<m+k->V.toList[i]? =some o'->Cmp V i (m+k)\/Yu o'=true\/(∃V',(i,V')∈sf.s/\V' x)\/(∃C,(i,x,m+k,C)∈sf.p/\C ((hs (k+1)).at x))\/
    ∃i',i=m+i'/\i'<k/\(VV (hs i') (hs (i'+1)) (xs i') x\/∃C,ps i'=some (x,m+k,C)/\C ((hs (k+1)).at x)))/\
  (Yu o=false->(∀q∈sf.m,Cmp V q.1 (m+k)\/∀x,q.2 x->VV (hs k) (hs (k+1)) (xs k) x)/\∀i',i'<k->Cmp V (m+i') (m+k)\/∀x,Ts i' x->x<(hs i').size->VV (hs k) (hs (k+1)) (xs k) x)/\
  (∀x j C,ps k=some (x,j,C)->xs k=[]/\(∀y,¬ Ts k y)/\hs (k+1)=hs k/\Prm X.P L rd V o (fs k) (hs k) (vs k) x C)
variable{sf:ST}{Q:Fr->H->Prop}
def WE.nil(k:Q fr h):WE X n L rd V sf m h [] fr Q:=⟨fun _=>h,fun _=>fr,fun _=>undef,fun _ _=>False,fun _=>[],fun _=>none,rfl,rfl,k,fun k o e=>by simp at e⟩
def WE.cons{o:Oper}{v:N}{T:Nat->Prop}{xs0:U Nat}(so to:U (Nat×(Nat->Prop)))(I:PsT)(h1:ZWN X n L rd V o T xs0 h fr v h2)
 (S:∀q∈so,q.1=m/\∀x,q.2 x->VV h h2 xs0 x) (K:∀x,T x->x<h.size->∃q∈to,q.1=m/\q.2 x)
 (c1:∀x,T x->x<h.size->∀i t,i<m->V.toList[i]? =some t->Cmp V i m\/Yu t=true\/(∃G,(i,G)∈sf.s/\G x)\/∃C,(i,x,m,C)∈sf.p/\C (h2.at x))
 (c2:Yu o=false->∀q∈sf.m,Cmp V q.1 m\/∀x,q.2 x->VV h h2 xs0 x)
 (hp:∀x j C,I=some (x,j,C)->xs0=[]/\(∀y,¬ T y)/\h2=h/\Prm X.P L rd V o fr h v x C)
 (k:WE X n L rd V ⟨so++sf.s,to++sf.m,(I.map fun q=>(m,q.1,q.2.1,q.2.2)).toList++sf.p⟩ (m+1) h2 l (UO fr o.dst v) Q):WE X n L rd V sf m h (o::l) fr Q:=by
 have⟨gs,fs,vs,Ts,xs,ps,e0,e1,W,hk⟩:=k;refine⟨fun k=>match k with|0=>h|k+1=>gs k,fun k=>match k with|0=>fr|k+1=>fs k,fun k=>match k with|0=>v|k+1=>vs k,fun k=>match k with|0=>T|k+1=>Ts k,fun k=>match k with|0=>xs0|k+1=>xs k,fun k=>match k with|0=>I|k+1=>ps k,rfl,rfl,W,fun k t r=>?_⟩;cases k with
 | zero=>
   simp at r;subst r;dsimp only;rw[e0];refine⟨h1,e1,fun x B D i t hi r=>?_,fun F=>⟨c2 F,fun A E=>absurd E (Nat.not_lt_zero _)⟩,hp⟩;rcases c1 x B D i t hi r with z|z|z|z
   .exact .inl z
   .exact .inr (.inl z)
   .exact .inr (.inr (.inl z))
   exact .inr (.inr (.inr (.inl z)))
 | succ k=>
   have⟨k1,k2,k3,k4,k5⟩:=hk k t (by simpa using r);have e:m+1+k=m+(k+1):=V6;rw[e]at k3 k4;dsimp only;refine⟨k1,k2,fun x B D i t hi r=>?_,fun F=>⟨fun q W=>(k4 F).1 q (J0.2 (.inr W)),fun A E=>?_⟩,k5⟩
   .rcases k3 x B D i t hi r with z|z|⟨G,z1,z2⟩|⟨C,z1,z2⟩|⟨A,q1,q2,q3⟩
    .exact .inl z
    .exact .inr (.inl z)
    .rcases J0.1 z1 with z1|z1
     .have⟨w1,w2⟩:=S _ z1;dsimp only at w1 w2;subst w1;refine .inr (.inr (.inr (.inr ⟨0,rfl,Nat.succ_pos _,.inl ?_⟩)));dsimp only;rw[e0];exact w2 x z2
     exact .inr (.inr (.inl ⟨G,z1,z2⟩))
    .rcases J0.1 z1 with z1|z1
     .cases I with|none=>simp at z1|some q=>
        simp at z1;have⟨w1,w2,w3,w4⟩:=z1;subst w1;exact .inr (.inr (.inr (.inr ⟨0,rfl,Nat.succ_pos _,.inr ⟨C,by show some q=_;rw[w2,w3,w4],z2⟩⟩)))
     exact .inr (.inr (.inr (.inl ⟨C,z1,z2⟩)))
    exact .inr (.inr (.inr (.inr ⟨A+1,by omega,by omega,q3⟩)))
   cases A with
   | zero=>
     dsimp only;by_cases hc:Cmp V (m+0) (m+(k+1));.exact .inl hc
     refine .inr fun x B D=>?_;have⟨q,q1,q2,q3⟩:=K x B D;rcases(k4 F).1 q (J0.2 (.inl q1)) with z|z
     .rw[q2]at z;exact absurd z hc
     exact z x q3
   | succ A=>
     have:=(k4 F).2 A V6;have e2:m+1+A=m+(A+1):=V6;rw[e2]at this;exact this
def WC.ZVT(hm:X.P.follows .mixedOrders=true){id:Nat}{R:XX->Fs->Prop}(S:(plan V.toList).isSome=true)(k:WE X n L rd V ST.nil 0 h V.toList fr (fun fr' h'=>R .normal ⟨fr',ds,h',none⟩)):WC X n L rd (.region id V true) ⟨fr,ds,h,none⟩ R:=by
 obtain⟨gs,fs,vs,ts,xs,ps,e0,e1,hq,A⟩:=k;obtain⟨X3,S⟩:=GJ.1 S;refine⟨.normal,_,hq,fun ρ a w F ZA hi hF=>?_⟩;unfold plan ZCp at S;cases G:(Uh Zd9 V.toList 0&&Uh (ZlM V.toList (Jh V.toList 0 [])) V.toList 0&&Uh (Zne V.toList) V.toList 0)<;>rw[G]at S<;>simp only[Cq1,Cq0]at S
 ·cases S
 rw[Ba0,Ba0]at G;obtain⟨⟨Zhj,ZlU⟩,E⟩:=G;have Zhj:=XO _ _ Zhj;have ZlU:=XO _ _ ZlU;have E:=XO _ _ E;have l:∀{k:Nat}{o:Oper},V[k]? =some o->V.toList[k]? =some o:=fun h=>by rwa[Gg]
 have hspec:=(Zj1 V.toList 0 [] rfl).2
 have hwk:∀k,k<=V.size->L<=(gs k).size:=by
  intro k
  induction k with|zero=>intro _;rw[e0];exact ZA|succ k ih=>
    intro hk';have hlt:k<V.size:=V6
    have m:V.toList[k]? =some V[k]:=by simp[hlt]
    obtain⟨h1,T,_,r⟩:=(A k _ m).1.run (ih V6);have K:=r.size;rw[ZX]at K;have:=ih V6;rw[T,Qb];omega
 have hlt:∀{k:Nat}{o:Oper},V[k]? =some o->k<V.size:=fun h=>(Jn.1 h).1
 have p:∀{k:Nat}(hl:k<V.size),V.toList[k]? =some V[k]:=fun hl=>by simp[hl]
 classical
 let sft:Nat->O (Nat×Nat):=fun i=>match ps i with|none=>none|some (x,j,C)=>if i<j/\j<V.size/\ts j x/\C ((gs (j+1)).at x) then some (x,j) else none
 have ZCg:∀i x j,sft i=some (x,j)->∃C,ps i=some (x,j,C)/\i<j/\j<V.size/\ts j x/\C ((gs (j+1)).at x):=by
  intro i x j e;dsimp only[sft]at e;cases S:ps i with|none=>rw[S]at e;cases e|some q=>
    obtain⟨y,j',C⟩:=q;rw[S]at e;dsimp only at e;split at e
    ·rename_i I;cases e;exact⟨C,rfl,I⟩
    cases e
 let D:Data X.P n L rd V:= {
  hs:=gs,fs:=fs,vs:=vs,mo:=ts,Xs:=xs,soft:=sft,hl:=fun i=>hlAt V.toList i,Pb:=fun j k=>bit ((Jh V.toList 0 []).getD j 0) k=true
  Zsr:=hwk 0 (Gq _)
  step:=fun k o m=>by
   obtain⟨h1,T,K,r⟩:=(A k o (l m)).1.run (hwk _ (Nat.le_of_lt (hlt m)));exact⟨h1,K,r,T,(A k o (l m)).2.1⟩
  wmM:=fun k x hkl W=>(A k _ (p hkl)).1.wmT x W
  dst:=fun k o d m hd=>(A k o (l m)).1.dst d hd
  Zg3:=fun j k hb=>by
   obtain⟨o,m,e,he,hb,A⟩:=hspec j k (Gq _) hb;exact⟨o,e,by rw[<-Gg];simpa using m,by simpa using he,hb,A⟩
  Zuw:=fun j o e m he hb=>by
   have:=Zhj j o (l m);unfold Zd9 at this;rw[KB]at this;have:=this e (by simpa using he);rw[hb]at this
   simpa[G5]using this
  inc:=fun i j B hjl hij h1 h2 hhl x W Q=>by
   have nc:¬ Cmp V i j:=fun q=>by
    rcases Zib q with y|y
    ·exact h1 y
    exact h2 y
   have I:Yu V[i]=false:=by
    have:hlAt V.toList i=false:=hhl;unfold hlAt at this;rw[p B]at this;exact this
   rcases Gl i j with hlt'|hge
   ·have:=(A j _ (p hjl)).2.2.1 x W Q i _ V6 (p B);rw[G6]at this;rcases this with q|q|⟨V',q,_⟩|⟨C,q,_⟩|⟨i',T,K,r⟩
    ·exact absurd q nc
    ·rw[I]at q;cases q
    ·simp[ST.nil]at q
    ·simp[ST.nil]at q
    rw[G6]at T;subst T;rcases r with r|⟨C,r,q4⟩
    ·exact r.imp (fun z=>⟨z.1,.inl z.2⟩) (fun z=>z)
    left;have hpr:=(A i _ (p B)).2.2.2.2 x j C r;refine⟨hpr.2.2.2.1,.inr ?_⟩;dsimp only[sft];rw[r];dsimp only;rw[if_pos ⟨K,hjl,W,q4⟩]
   have:=((A i _ (p B)).2.2.2.1 I).2 j V6;rw[G6,G6]at this;rcases this with q|q
   ·exact absurd (by unfold Cmp;rw[ZFA hij];exact q) nc
   exact(q x W Q).imp (fun z=>⟨z.1,.inl z.2⟩) (fun z=>z)
  ZNZ:=fun i o m I=>by
   have hq:Yu o=true:=by unfold hlAt at I;rw[l m]at I;exact I
   obtain⟨z1,z2,z3⟩:=(A i o (l m)).1.hl hq;exact⟨z1,by rw[z2],z3⟩
  ZvF:=fun i o x j m I=>by
   obtain⟨C,s1,s2,s3,s4,s5⟩:=ZCg i x j I;obtain⟨z0,z1,z2,z3,z4,z5,z6⟩:=(A i o (l m)).2.2.2.2 x j C s1;obtain⟨w1,w2⟩:=z6 _ s5;exact⟨s2,s3,z3,z1,by rw[z2],z4,w1,by rw[z0];exact z5,by rw[z0];exact w2⟩
  MX:=fun i x B W Q=>(A i _ (p B)).1.mx x W Q
  looks:=fun i o t m ht k o' ho' hd=>by
   have:=ZlU i o (l m);unfold ZlM at this;rw[KB]at this;have:=XO _ _ (this t ht) k o' (l ho');rw[ZeS.2 hd]at this;simp only[Cq1,GM,G6]at this;rcases this with z|z
   ·exact .inl (Nb0 z)
   exact .inr (Zib z)
  ZJQ:=fun i j o o' t m ho' hd hd'=>by
   have:=E i o (l m);unfold Zne at this;rw[hd]at this;have:=XO _ _ this j o' (l ho');rw[ZeS.2 hd']at this;simp only[Cq1,G6]at this;exact(Nb0 this).symm}
 have hi2:Inv ρ n {fr:=D.fs 0,ds:=ds,h:=D.hs 0} a w:=⟨by show Rel ρ (gs 0) w;rw[e0];exact hi.rel,by show FrR ρ (fs 0) n a.tmps;rw[e1];exact hi.fr,hi.ds⟩
 have:=D.region hm hi2 hF id;have hlen:V.toList.length=V.size:=by simp
 rw[hlen];refine wpIn_mono this fun e' a' w' ⟨ρ',T,K,r⟩=>⟨ρ',T,⟨K.rel,K.fr,K.ds⟩,?_⟩
 have e0':D.hs 0=h:=e0;rw[e0']at r;exact r
end
section
variable{n:Nat}{rd:O Nat}{V:GZ Oper}{l:U Oper}{fr:Fr}{ds:U V2}{h1 h2:H}{ty:J}{p:String}{af:GZ Edge}{g:O (Nat×Z)}{m:Nat}
def ZbS{d:O Tmp}{q:Op}{v:N}{E:Eff}(A:Yh V ⟨d,q,ty,p,af,g⟩ fr)(l:Qd X h (YM fr) ⟨d,q,ty,p,af,g⟩=some (.val v,E)\/Qd X h (YM fr) ⟨d,q,ty,p,af,g⟩=some (.skip,E)/\v=undef)(t:E.apply L h=some h1):
 JK X.P L rd V ⟨d,q,ty,p,af,g⟩ (fun x=>E.tgt=some x) fr h v h1/\(L<=h.size->WH (fun x=>E.tgt=some x) h h1)/\(L<=h.size->∀x,E.tgt=some x->L<=x):=by
 have m:Kg X (fun _=>true) (fun _=>none) ((d.getD 0)+1) L none false V.toList ⟨d,q,ty,p,af,g⟩ fr h=some (E.tgt,v,h1):=by
  unfold Kg;rw[A.1,A.2];cases d with
  | none=>
    rcases l with l|⟨l,rfl⟩
    .rw[l];dsimp only[Q1,Cq0,Cq1];rw[t];rfl
    rw[l];dsimp only[Q1,Cq0,Cq1];rw[t];rfl
  | some r=>
    have:Nat.blt r (r+1)=true:=by rw[G5];omega
    have B:(Nat.blt r ((some r).getD 0+1)&&allowed none r)=true:=by dsimp only[Option.getD];rw[this];rfl
    dsimp only at B ⊢;rw[B];rcases l with l|⟨l,rfl⟩
    .rw[l];dsimp only[Q1,Cq0,Cq1];rw[t];rfl
    rw[l];dsimp only[Q1,Cq0,Cq1];rw[t];rfl
 have y:MOf false L E.tgt=fun x=>E.tgt=some x:=ZWP L E.tgt;refine⟨?_,fun hw=>?_,fun hw x C=>?_⟩;.rw[<-y];exact ZcQ (Zbt X) ZeL m
 .rw[<-y];exact(Wm ZeL m hw).1
 exact(Wm ZeL m hw).2.1 x (by rw[y];exact C)
def ZpD{o:Oper}{f:GX}{args:GZ N}{m:Nat}{v:N}(S:Yh V o fr)(D:Qd X h (YM fr) o=some (.enter f args,.none))(hl:m<=h.size)(hj:YW X (.call f args m h) (.fin (.ret v) h2)):
 JK X.P L rd V o (fun x=>m<=x/\(h.at x).own=true) fr h v h2:=by
 intro ρ a w F K Q r ZA T q hK;rw[Zef V o T S.1,S.2,if_pos rfl];have⟨ev2,e1,e2⟩:=Zkj V o T D;have⟨ρ1,w1,p1,p2,p3⟩:=Zcj r e1 e2;have W:Eff.apply L h .none=some h:=rfl;have⟨r1,st1⟩:=Eff.sound r ZA p1 W p2;have⟨sm,km,ZDm⟩:=Eff.ZRX r ZA p1 W p2;refine⟨fun f C=>(Zbb q f).2 (Zc2 D p3 C),?_⟩
 have ZqG:o.semAt F.round a.eval=execOp a.eval o:=by
  cases B:rd with|none=>rw[B]at q;unfold FR' at q;subst q;rfl|some l=>
    refine Oper.semAt_eq _ _ _ fun c hc=>?_;have⟨d,h1⟩:=ZjI D hc;simp at h1
 rw[ZqG];have ZIk:F.depth.isSome=true->1<=0:=fun I=>by rw[Zby q]at I;cases I
 have E:=q.mono st1.ext;generalize G:(execOp a.eval o).run X.P w=res at p3;obtain⟨p,y,rfl⟩:=p3;refine⟨ZIk,(JR E (hj ρ1 p w1 hl r1 y)).mono ?_⟩;rintro e' w' ⟨t,he,hr,A⟩;cases he with|@ret _ v' hv=>
   have st2:ZaL (fun x=>m<=x/\(h.at x).own=true) ρ1 h w1 t w':=A.toM.ZoK (fun i _ h2 h3=>⟨h2,h3⟩) r1.lt;have toM:ZaL (fun x=>m<=x/\(h.at x).own=true) ρ h w ρ1 w1:=sm.weaken (fun i _ hi=>by cases hi) r.lt;exact hK t v' w' hv hr (toM.trans r.lt V7 (fun _ _ z=>z) st2)
structure WX(X:Ctx)(n L:Nat)(rd:Option Nat)(V:Array Oper)(sf:ST)(m:Nat)(h:H)(l:List Oper)(fr:Fr)(Q:Fr->H->Prop):Prop where
 out:(∀q∈sf.m,∀x,q.2 x->x<h.size)->WE X n L rd V sf m h l fr Q
variable{sf:ST}{Q:Fr->H->Prop}
def WC.XJ(r:X.P.follows .mixedOrders=true){id:Nat}{R:XX->Fs->Prop}(p:(plan V.toList).isSome=true)(k:WX X n L rd V ST.nil 0 h V.toList fr (fun l t=>R .normal ⟨l,ds,t,none⟩)):WC X n L rd (.region id V true) ⟨fr,ds,h,none⟩ R:=
 WC.ZVT r p (k.out fun q m=>by simp[ST.nil]at m)
def WX.nil(k:Q fr h):WX X n L rd V sf m h [] fr Q:=⟨fun _=>WE.nil k⟩
def okM(V:GZ Oper)(h:ST)(m:Nat)(o:Oper):Z:=(h.m.all fun q=>comp (Jh V.toList 0 []) q.1 m)||Yu o
def WU{o:Oper}(h:okM V sf m o=true):Yu o=false->∀q∈sf.m,Cmp V q.1 m:=fun p q l=>by
 unfold okM at h;rw[p,Bool.or_false,KB]at h;exact h q l
def okB(V:GZ Oper)(m:Nat)(h:U Nat):Z:=Uh (fun i o=>Nat.ble m i||comp (Jh V.toList 0 []) i m||Yu o||h.any (Nat.beq i)) V.toList 0
def ZsE{is:U Nat}(h:okB V m is=true){i:Nat}{o:Oper}(p:i<m)(l:V.toList[i]? =some o):Cmp V i m\/Yu o=true\/i∈is:=by
 have:=XO _ _ h i o l;rw[G6,GM,GM,GM]at this;rcases this with((q|q) | q) | q
 .have:=Nl0 q;omega
 .exact .inl q
 .exact .inr (.inl q)
 rw[GR]at q;have⟨y,q1,q2⟩:=q;obtain rfl:=Nb0 q2;exact .inr (.inr q1)
def WO.w{Q:XX->Fs->Prop}{d:Nat}{m:Op}{v:N}(q:Yh V ⟨some d,m,ty,p,af,g⟩ fr)(r:Nat.blt d n=true)(t:Qd X h (YM fr) ⟨some d,m,ty,p,af,g⟩=some (.val v,.none))(k:WO X n L rd V l ⟨Tr.set fr d v,ds,h,none⟩ Q):
 WO X n L rd V (⟨some d,m,ty,p,af,g⟩::l) ⟨fr,ds,h,none⟩ Q:=WO.v q r t rfl k
def V8{Q:XX->Fs->Prop}{d:Nat}{m:Op}{v:Value}(r:Qd X h (YM fr) ⟨some d,m,ty,p,af,none⟩=some (.val v,.none))(k:WO X n L rd V l ⟨Tr.set fr d v,ds,h,none⟩ Q)(q:Nat.blt d n=true:=by exact rfl):WO X n L rd V (⟨some d,m,ty,p,af,none⟩::l) ⟨fr,ds,h,none⟩ Q:=WO.w gN q r k
def WX.w{d:Nat}{r:Op}{v:N}(E:Yh V ⟨some d,r,ty,p,af,g⟩ fr)(F:Nat.blt d n=true)(B:Qd X h (YM fr) ⟨some d,r,ty,p,af,g⟩=some (.val v,.none))(k:WX X n L rd V sf (m+1) h l (Tr.set fr d v) Q)(I:okM V sf m ⟨some d,r,ty,p,af,g⟩=true):
 WX X n L rd V sf m h (⟨some d,r,ty,p,af,g⟩::l) fr Q:=by
 refine⟨fun G=>WE.cons (T:=fun _=>False) (xs0:=[]) (v:=v) [] [] none ?_ (fun _ z=>by simp at z) (fun _ z=>z.elim) (fun _ z=>z.elim) (fun t q D=>.inl (WU I t q D)) (fun x j C z=>by cases z) (k.out G)⟩
 have A:∀h',Qd X h' (YM fr) ⟨some d,r,ty,p,af,g⟩=some (.val v,.none)->JK X.P L rd V ⟨some d,r,ty,p,af,g⟩ (fun _=>False) fr h' v h':=fun h' y=>by
  have:=(ZbS (L:=L) (rd:=rd) E (.inl y) (h1:=h') rfl).1;simpa[Eff.tgt]using this
 refine⟨fun hw=>⟨h,rfl,A h B,⟨K2 _,fun _ _ _=>rfl,fun _ _ z=>z,fun _ _ z=>z⟩⟩,fun _ z=>z.elim,fun K e=>(by cases e;rwa[G5]at F),fun t=>⟨fun _ z=>z,rfl,fun g=>A g ?_⟩,fun _ z=>z.elim⟩;rw[Zim h g t];exact B
def Vb{d:Nat}{q:Op}{v:Value}(t:Qd X h (YM fr) ⟨some d,q,ty,p,af,none⟩=some (.val v,.none))(k:WX X n L rd V sf (m+1) h l (Tr.set fr d v) Q)(r:Nat.blt d n=true:=by exact rfl)(x:okM V sf m ⟨some d,q,ty,p,af,none⟩=true:=by exact rfl):WX X n L rd V sf m h (⟨some d,q,ty,p,af,none⟩::l) fr Q:=WX.w gN r t k x
def WX.off{d:Nat}{r:Op}(B:Zix V ⟨some d,r,ty,p,af,g⟩ fr)(E:Nat.blt d n=true)(k:WX X n L rd V sf (m+1) h l (Tr.set fr d undef) Q)(G:okM V sf m ⟨some d,r,ty,p,af,g⟩=true):
 WX X n L rd V sf m h (⟨some d,r,ty,p,af,g⟩::l) fr Q:=by
 refine⟨fun F=>WE.cons (T:=fun _=>False) (xs0:=[]) (v:=undef) [] [] none ?_ (fun _ z=>by simp at z) (fun _ z=>z.elim) (fun _ z=>z.elim) (fun A q D=>.inl (WU G A q D)) (fun x j C z=>by cases z) (k.out F)⟩
 have y:∀h',JK X.P L rd V ⟨some d,r,ty,p,af,g⟩ (fun _=>False) fr h' undef h':=fun h'=>by
  have t:Kg X (fun _=>true) (fun _=>none) (d+1) L none false V.toList ⟨some d,r,ty,p,af,g⟩ fr h'=some (none,undef,h'):=by
   unfold Kg;dsimp only;have:Nat.blt d (d+1)=true:=by rw[G5];omega
   rw[this,B.1,B.2];rfl
  have:=ZcQ (rd:=rd) (Zbt X) ZeL t;rwa[ZGp]at this
 exact⟨fun hw=>⟨h,rfl,y h,⟨K2 _,fun _ _ _=>rfl,fun _ _ z=>z,fun _ _ z=>z⟩⟩,fun _ z=>z.elim,fun I e=>(by cases e;rwa[G5]at E),fun A=>⟨fun _ z=>z,rfl,fun g=>y g⟩,fun _ z=>z.elim⟩
def WX.gv{d:Nat}{q:Op}{c:Z}{v:N}(r:Zh V ⟨some d,q,ty,p,af,g⟩ fr c)(t:Nat.blt d n=true)(y:c=true->Qd X h (YM fr) ⟨some d,q,ty,p,af,g⟩=some (.val v,.none))(k:WX X n L rd V sf (m+1) h l (Tr.set fr d (cond c v undef)) Q)(x:okM V sf m ⟨some d,q,ty,p,af,g⟩=true):
 WX X n L rd V sf m h (⟨some d,q,ty,p,af,g⟩::l) fr Q:=by
 cases c;.exact WX.off r t k x
 exact WX.w r t (y rfl) k x
open Classical in
def Qp (h:H) (R:Nat ->Prop):List Nat:= (List.range h.size).filter fun x=>decide (¬ R x)
def ZcA{h:H}{R:Nat->Prop}{x:Nat}:x∈Qp h R↔x<h.size/\¬ R x:=by unfold Qp;simp
def ZDR{R:Nat->Prop}{x:Nat}(l:R x):(mask (Qp h R) h).at x=h.at x:=by rw[QF,if_neg (fun z=>(ZcA.1 z).2 l)]
def Up.hide(lo:Nat)(m:U Nat)(h:H):Up lo (fun _=>False) h (Jf m h (mask m h)):=
 ⟨by rw[Qb,ZX];exact K2 _,fun i p _=>by
   rw[JD _ _ _ (by rw[ZX];exact K2 _),QF];by_cases l:i∈m
   .rw[if_pos ⟨l,p⟩]
   rw[if_neg (fun q=>l q.1),if_neg l],fun _ e=>e.elim⟩
def WX.wr{F:Nat->Prop}{G:U (Ast L)}{d:Nat}{t:Op}{v:N}(R:Nat->Prop)(hS:Sp L F h0 G h)(K:Yh V ⟨some d,t,ty,p,af,g⟩ fr)(P:Nat.blt d n=true)(W:∀E:H,E.size=h.size->(∀x,R x->E.at x=h.at x)->Qd X E (YM fr) ⟨some d,t,ty,p,af,g⟩=some (.val v,.none))
 (k:∀D,D.size=h.size->Sp L F h0 G D->WX X n L rd V ⟨(m,fun x=>¬ R x)::sf.s,sf.m,sf.p⟩ (m+1) D l (Tr.set fr d v) Q) (B:Yu ⟨some d,t,ty,p,af,g⟩=false) (hM:okM V sf m ⟨some d,t,ty,p,af,g⟩=true):
 WX X n L rd V sf m h (⟨some d,t,ty,p,af,g⟩::l) fr Q:=by
 have r:(Jf (Qp h R) h (mask (Qp h R) h)).size=h.size:=by rw[Qb,ZX]
 refine⟨fun S=>WE.cons (T:=fun _=>False) (xs0:=Qp h R) (h2:=Jf (Qp h R) h (mask (Qp h R) h)) (v:=v) [(m,fun x=>¬ R x)] [] none ?_ (fun q A=>?_) (fun _ z=>z.elim) (fun _ z=>z.elim) (fun B q A=>.inl (WU hM B q A)) (fun x j C z=>by cases z) ((k _ r (hS.up (Up.hide L _ h))).out fun q A x y=>by rw[r];exact S q A x y)⟩
 .have:=ZbS (L:=L) (rd:=rd) K (.inl (W _ (ZX _ _) fun x y=>ZDR y)) (h1:=mask (Qp h R) h) rfl;have I:(fun x:Nat=>Eff.tgt Eff.none=some x)=fun _=>False:=by funext x;simp[Eff.tgt]
  rw[I]at this;exact⟨fun hw=>⟨_,rfl,this.1,this.2.1 (by rw[ZX];exact hw)⟩,fun _ z=>z.elim,fun d' e=>(by cases e;rwa[G5]at P),fun q=>Bool.noConfusion (B.symm.trans q),fun _ z=>z.elim⟩
 rw[Gf.1 A];refine⟨rfl,fun x y=>?_⟩;rcases Gl x h.size with z|z
 .exact .inl ⟨z,ZcA.2 ⟨z,y⟩⟩
 exact .inr (by rw[r];exact z)
def HV(X:Ctx)(L:Nat)(o:Oper)(fr:Fr)(h:H)(T:Nat->Prop)(K:N->H->Prop):Prop:=∃v E h1,Qd X h (YM fr) o=some (.val v,E)/\E.apply L h=some h1/\(∀x,E.tgt=some x->T x)/\h.size<=h1.size/\K v h1
def HU(X:Ctx)(L:Nat)(o:Oper)(fr:Fr)(h:H)(T:Nat->Prop)(K:H->Prop):Prop:=∃E h1,Qd X h (YM fr) o=some (.skip,E)/\E.apply L h=some h1/\(∀x,E.tgt=some x->T x)/\h.size<=h1.size/\K h1
def WO.hv{Q:XX->Fs->Prop}{d:Nat}{m:Op}{T:Nat->Prop}{K:N->H->Prop}(r:Yh V ⟨some d,m,ty,p,af,g⟩ fr)(t:Nat.blt d n=true)(s:HV X L ⟨some d,m,ty,p,af,g⟩ fr h T K)(k:∀v q,K v q->WO X n L rd V l ⟨Tr.set fr d v,ds,q,none⟩ Q):
 WO X n L rd V (⟨some d,m,ty,p,af,g⟩::l) ⟨fr,ds,h,none⟩ Q:=let⟨v,_,h1,ha,hE,_,_,hk⟩:=s;WO.v r t ha hE (k v h1 hk)
def WO.hu{Q:XX->Fs->Prop}{m:Op}{T:Nat->Prop}{K:H->Prop}(r:Yh V ⟨none,m,ty,p,af,g⟩ fr)(s:HU X L ⟨none,m,ty,p,af,g⟩ fr h T K)(k:∀q,K q->WO X n L rd V l ⟨fr,ds,q,none⟩ Q):
 WO X n L rd V (⟨none,m,ty,p,af,g⟩::l) ⟨fr,ds,h,none⟩ Q:=let⟨_,h1,ha,hE,_,_,hk⟩:=s;WO.u r ha hE (k h1 hk)
def Yv(l:ST)(T:Nat->Prop)(m:U Nat):Prop:=∀i∈m,∃h,(i,h)∈l.s/\∀x,T x->h x
def Yv.e{T:Nat->Prop}:Yv sf T []:=fun _ z=>by simp at z
inductive ZBr(i:Nat)(V':Nat->Prop):List (Nat×(Nat->Prop))->Prop
 | z {r:List (Nat×(Nat->Prop))}:ZBr i V' ((i,V')::r)
 | s {q:Nat×(Nat->Prop)} {r:List (Nat×(Nat->Prop))}:ZBr i V' r->ZBr i V' (q::r)
def ZBr.mem{i:Nat}{l:Nat->Prop}{r:U (Nat×(Nat->Prop))}(h:ZBr i l r):(i,l)∈r:=by induction h with|z=>simp|s _ ih=>simp[ih]
def Yv.c{T h:Nat->Prop}{i:Nat}{l:U Nat}(m:ZBr i h sf.s)(hv:∀x,T x->h x)(b:Yv sf T l):Yv sf T (i::l):=fun j p=>by
 rcases Ks.1 p with z|z
 .subst z;exact⟨h,m.mem,hv⟩
 exact b j z
def ZDn{d:O Tmp}{A:Op}{v:N}{T:Nat->Prop}{E:Eff}(hg:Yh V ⟨d,A,ty,p,af,g⟩ fr)(P:∀d',d=some d'->d'<n)(ha:Qd X h (YM fr) ⟨d,A,ty,p,af,g⟩=some (.val v,E)\/Qd X h (YM fr) ⟨d,A,ty,p,af,g⟩=some (.skip,E)/\v=undef)(hE:E.apply L h=some h1)(W:∀x,E.tgt=some x->T x)(t:h.size<=h1.size)
 (k:WX X n L rd V ⟨sf.s,(m,fun x=>T x/\x<h.size)::sf.m,sf.p⟩ (m+1) h1 l (UO fr d v) Q) (B:Yu ⟨d,A,ty,p,af,g⟩=false) (hM:okM V sf m ⟨d,A,ty,p,af,g⟩=true) (K:U Nat) (hB:okB V m K=true) (hi:Yv sf T K):
 WX X n L rd V sf m h (⟨d,A,ty,p,af,g⟩::l) fr Q:=by
 refine⟨fun S=>?_⟩;by_cases hw:L<=h.size
 .have D:=ZbS (L:=L) (rd:=rd) hg ha hE
  refine WE.cons (T:=fun x=>E.tgt=some x) (xs0:=[]) (h2:=h1) (v:=v) [] [(m,fun x=>T x/\x<h.size)] none ⟨fun _=>⟨h1,rfl,D.1,D.2.1 hw⟩,D.2.2 hw,P,fun q=>Bool.noConfusion (B.symm.trans q),fun _ _ _ z=>by simp at z⟩ (fun _ z=>by simp at z) (fun x r G=>⟨_,Gf.2 rfl,rfl,W x r,G⟩)
   (fun x r G i o' I F=>?_) (fun B q y=>.inl (WU hM B q y)) (fun x j C z=>by cases z) (k.out fun q y x r=>?_)
  .rcases ZsE hB I F with z|z|z
   .exact .inl z
   .exact .inr (.inl z)
   have⟨V',q1,q2⟩:=hi i z;exact .inr (.inr (.inl ⟨V',q1,q2 x (W x r)⟩))
  rcases Ks.1 y with z|z
  .subst z;exact J1 r.2 t
  exact J1 (S q z x r) t
 refine WE.cons (T:=fun _=>False) (xs0:=[]) (h2:=h1) (v:=v) [] [(m,fun x=>T x/\x<h.size)] none ⟨fun z=>absurd z hw,fun _ z=>z.elim,P,fun q=>Bool.noConfusion (B.symm.trans q),fun _ z=>z.elim⟩ (fun _ z=>by simp at z) (fun x r G=>r.elim)
  (fun x r=>r.elim) (fun B q y=>.inl (WU hM B q y)) (fun x j C z=>by cases z) (k.out fun q y x r=>?_)
 rcases Ks.1 y with z|z
 .subst z;exact J1 r.2 t
 exact J1 (S q z x r) t
def WX.hv{d:Nat}{q:Op}{T:Nat->Prop}{K:N->H->Prop}(B:Yh V ⟨some d,q,ty,p,af,g⟩ fr)(C:Nat.blt d n=true)(s:HV X L ⟨some d,q,ty,p,af,g⟩ fr h T K)
 (k:∀v t,K v t->WX X n L rd V ⟨sf.s,(m,fun x=>T x/\x<h.size)::sf.m,sf.p⟩ (m+1) t l (Tr.set fr d v) Q) (A:Yu ⟨some d,q,ty,p,af,g⟩=false) (D:okM V sf m ⟨some d,q,ty,p,af,g⟩=true) (r:U Nat) (E:okB V m r=true) (y:Yv sf T r):
 WX X n L rd V sf m h (⟨some d,q,ty,p,af,g⟩::l) fr Q:=
 let⟨v,_,h1,ha,hE,hT,hz,hk⟩:=s;ZDn B (fun F e=>by cases e;rwa[G5]at C) (.inl ha) hE hT hz (k v h1 hk) A D r E y
def WX.hu{q:Op}{T:Nat->Prop}{K:H->Prop}(B:Yh V ⟨none,q,ty,p,af,g⟩ fr)(s:HU X L ⟨none,q,ty,p,af,g⟩ fr h T K)
 (k:∀t,K t->WX X n L rd V ⟨sf.s,(m,fun x=>T x/\x<h.size)::sf.m,sf.p⟩ (m+1) t l fr Q) (A:Yu ⟨none,q,ty,p,af,g⟩=false) (C:okM V sf m ⟨none,q,ty,p,af,g⟩=true) (r:U Nat) (D:okB V m r=true) (y:Yv sf T r):
 WX X n L rd V sf m h (⟨none,q,ty,p,af,g⟩::l) fr Q:=
 let⟨_,h1,ha,hE,hT,hz,hk⟩:=s;ZDn (v:=undef) B (fun E e=>by cases e) (.inr ⟨ha,rfl⟩) hE hT hz (k h1 hk) A C r D y
def Zrw(h:H){A:YN}(l:A.own=true):Eff.apply L h (.new A)=some (h.push A):=by show(bif A.own then some (h.push A) else none)=_;rw[l];rfl
def HN(X:Ctx)(L:Nat)(o:Oper)(fr:Fr)(h:H)(K:N->H->Prop):Prop:=∃v A,A.own=true/\(∀g:H,g.size=h.size->Qd X g (YM fr) o=some (.val v,.new A))/\∀l,Up L (fun _=>False) h l->l.at h.size=A->l.size=h.size+1->K v l
def WO.hn{Q:XX->Fs->Prop}{d:Nat}{m:Op}{K:N->H->Prop}(r:Yh V ⟨some d,m,ty,p,af,g⟩ fr)(t:Nat.blt d n=true)(s:HN X L ⟨some d,m,ty,p,af,g⟩ fr h K)(k:∀v q,K v q->WO X n L rd V l ⟨Tr.set fr d v,ds,q,none⟩ Q):
 WO X n L rd V (⟨some d,m,ty,p,af,g⟩::l) ⟨fr,ds,h,none⟩ Q:=let⟨v,A,hA,ha,hk⟩:=s;WO.v r t (ha h rfl) (Zrw h hA) (k v _ (hk _ (Up.push L h A) (Wy h A) Vd))
def Va{Q:XX->Fs->Prop}{d:Nat}{m:Op}{K:Value->H->Prop}(s:HN X L ⟨some d,m,ty,p,af,none⟩ fr h K)(k:∀v q,K v q->WO X n L rd V l ⟨Tr.set fr d v,ds,q,none⟩ Q)(r:Nat.blt d n=true:=by exact rfl):WO X n L rd V (⟨some d,m,ty,p,af,none⟩::l) ⟨fr,ds,h,none⟩ Q:=WO.hn gN r s k
def WX.hn{d:Nat}{E:Op}{K:N->H->Prop}(hg:Yh V ⟨some d,E,ty,p,af,g⟩ fr)(hd:Nat.blt d n=true)(s:HN X L ⟨some d,E,ty,p,af,g⟩ fr h K)(k:∀v P,K v P->WX X n L rd V ⟨(m,fun x=>x≠h.size)::sf.s,sf.m,sf.p⟩ (m+1) P l (Tr.set fr d v) Q)(W:Yu ⟨some d,E,ty,p,af,g⟩=false):
 WX X n L rd V sf m h (⟨some d,E,ty,p,af,g⟩::l) fr Q:=by
 have⟨v,A,hA,ha,hk⟩:=s;have t:∀x,x∈Qp h (fun _=>False)↔x<h.size:=fun x=>by rw[ZcA];simp
 have r:(Jf (Qp h fun _=>False) h ((mask (Qp h fun _=>False) h).push A)).size=h.size+1:=by rw[Qb,H.size_push,ZX]
 have D:h.size<=((mask (Qp h fun _=>False) h).push A).size:=by rw[H.size_push,ZX];omega
 have hu:Up L (fun _=>False) h (Jf (Qp h fun _=>False) h ((mask (Qp h fun _=>False) h).push A)):=
  ⟨by rw[r];omega,fun i I _=>by rw[JD _ _ _ D,if_pos ⟨(t i).2 I,I⟩],fun _ e=>e.elim⟩
 have G:(Jf (Qp h fun _=>False) h ((mask (Qp h fun _=>False) h).push A)).at h.size=A:=by
  rw[JD _ _ _ D,if_neg (fun q=>Nat.lt_irrefl _ q.2)];have:=Wy (mask (Qp h fun _=>False) h) A;rwa[ZX]at this
 refine⟨fun F=>WE.cons (T:=fun _=>False) (xs0:=Qp h fun _=>False) (v:=v) [(m,fun x=>x≠h.size)] [] none ?_ (fun q B=>?_) (fun _ z=>z.elim) (fun _ z=>z.elim) (fun _ q B=>.inr fun x y=>?_) (fun x j C z=>by cases z)
  ((k v _ (hk _ hu G r)).out fun q B x y=>by rw[r];exact Nat.lt_succ_of_lt (F q B x y))⟩
 .have:=ZbS (L:=L) (rd:=rd) hg (.inl (ha _ (ZX _ _))) (h1:=(mask (Qp h fun _=>False) h).push A) (Zrw _ hA);have S:(fun x:Nat=>Eff.tgt (Eff.new A)=some x)=fun _=>False:=by funext x;simp[Eff.tgt]
  rw[S]at this;exact⟨fun hw=>⟨_,rfl,this.1,this.2.1 (by rw[ZX];exact hw)⟩,fun _ z=>z.elim,fun d' e=>(by cases e;rwa[G5]at hd),fun q=>Bool.noConfusion (W.symm.trans q),fun _ z=>z.elim⟩
 .rw[Gf.1 B];refine⟨rfl,fun x y=>?_⟩;rcases Gl x h.size with z|z
  .exact .inl ⟨z,(t x).2 z⟩
  right;rw[r];have:x≠h.size:=y;omega
 exact .inl ⟨F q B x y,(t x).2 (F q B x y)⟩
end
section
variable{n:Nat}{rd:O Nat}{V:GZ Oper}{l:U Oper}{fr:Fr}{ds:U V2}{h1 h2:H}{ty:J}{p:String}{af:GZ Edge}{g:O (Nat×Z)}{m:Nat}{Ga Gb:U (Ast L)}{d:Nat}{sf:ST}
def Zsu{x:GV}{t:J}{v:N}{vs:U N}(m:Sp L T h0 G h)(y:YM fr x=some v)(hv:v.cells.toList=vs):
 HN X L ⟨some d,.box t x,ty,p,af,g⟩ fr h (fun v q=>∃b,h.size=b/\v=(V5 b)/\Sp L T h0 (bx L b vs::G) q):=by
 subst hv;refine⟨(V5 h.size),.row v.cells.toList true 0,rfl,fun A r=>?_,fun q u l _=>⟨h.size,rfl,rfl,m.new u ⟨l,m.hw⟩ fun i e=>Nat.le_of_eq e.symm⟩⟩;rw[ZKb,y];rw[<-r];rfl
def Zc4{t:J}{v:N}{vs:U N}(q:Sp L T h0 G h)(x:Xl X.P t=some v)(hv:v.cells.toList=vs):
 HN X L ⟨some d,.alloc t,ty,p,af,g⟩ fr h (fun v r=>∃b,h.size=b/\v=(V5 b)/\Sp L T h0 (bx L b vs::G) r):=by
 subst hv;refine⟨(V5 h.size),.row v.cells.toList true 0,rfl,fun y l=>?_,fun r u m _=>⟨h.size,rfl,rfl,q.new u ⟨m,q.hw⟩ fun i e=>Nat.le_of_eq e.symm⟩⟩;rw[ZBa,x];rw[<-l];rfl
def Ud{x y:GV}{t:J}{b o l:Nat}{cs cs' vs:U N}{v:N}(r:Sp L T h0 G h)(pk:Pk G (bx L b cs) Gr)(B:YX X.P t=some l)(m:YM fr x=some (.pointer (some ⟨b,o,none⟩)))(A:YM fr y=some v)
 (q:v.cells.toList=vs) (hn:Nat.beq vs.length l=true) (C:Nat.ble (o+l) cs.length=true) (D:vs.all Value.oneCell'=true) (hv:splice cs o vs=cs'):
 HU X L ⟨none,.store t x y,ty,p,af,g⟩ fr h (fun i=>i=b) (fun E=>Sp L T h0 (bx L b cs'::Gr) E):=by
 have⟨hr,hw⟩:=r.get pk;have⟨e1,e2⟩:=ZRY (d:=none) (ty:=ty) (p:=p) (af:=af) (g:=g) B m A hr hw q (Nb0 hn) (Nl0 C) D hv;refine⟨_,_,e1,e2,fun x m=>?_,by simp,?_⟩;.simpa[Eff.tgt,eq_comm]using m
 exact r.one pk (Up.put hw (by rw[hr];rfl)) (fun i e=>e) ⟨YD (X4 hr rfl) _,hw⟩ fun i e=>.inl e
def ZrN{x:GV}{t r:J}{a:O Addr}{l y:Nat}{k:Int}(hu:X.P.underlying t=some (.slice r))(m:YM fr x=some (.slice a l y))(q:(l:Int)=k):
 Qd X h (YM fr) ⟨some d,.call {callee:=.builtin .len,args:=#[x],argTypes:=#[t]},ty,p,af,g⟩=some (.val (V4 k),.none):=by subst q;exact ZQB hu m
section
variable{α:Type}{e:WG α}
def Jg{t Q:J}{l:Nat}{y:GZ (Nat×GV)}{m:U (Nat×N)}{z:N}{C:U N}{xs:U α}(V:Sp L T h0 G h)
 (hu:X.P.underlying t=some (.slice Q)) (hs:YX X.P Q=some e.sz) (hz:Xl X.P Q=some z) (D:z.cells.toList=C) (E:C.length=e.sz) (S:Nat.ble (l*e.sz) 10000=true) (hp:evp (YM fr) y.toList=some m)
 (ho:Zmr (fun i=>some (i*e.sz,e.sz)) (Zr9 C l).length m=true) (x:U (e.Par×α)) (hv:Zt1 (fun i=>i*e.sz) (Zr9 C l) m=x.flatMap fun q=>e.sh q.1 q.2) (hq:x.map (·.2)=xs) (hF:∀q∈x,e.F L h q.1 q.2) (B:Nat.beq l xs.length=true):
 HN X L ⟨some d,.buildSlice t l y,ty,p,af,g⟩ fr h (fun v W=>∃b,h.size=b/\v=.slice (some ⟨b,0,none⟩) l (2*l)/\Sp L T h0 (ow L e (some ⟨b,0,none⟩) l (2*l) xs::G) W):=by
 obtain rfl:=Nb0 B;have hm':=Nl0 S;refine⟨.slice (some ⟨h.size,0,none⟩) xs.length (2*xs.length),.row (x.flatMap fun q=>e.sh q.1 q.2) true e.sz,rfl,fun g' I=>?_,fun W u K _=>⟨h.size,rfl,rfl,V.new u ⟨rfl,?_⟩ fun i ⟨o,e⟩=>by cases e;exact K2 _⟩⟩;.show(match evp (YM fr) y.toList with|some y=>vE (ZuZ X.P g' t xs.length y)|none=>none)=_;rw[hp];dsimp only;unfold ZuZ;rw[hu];dsimp only;rw[hs,hz];dsimp only;rw[D,E];have b1:Nat.ble 1 e.sz=true:=Nm0 e.pos;rw[b1,S,Nat.beq_refl];simp[Bool.and_self,Cq1];rw[Zu6 (off:=fun i=>i*e.sz) (fun i p e=>by cases e;rfl) _ _ ho,hv,I];rfl
 have r:=JL.ZHu (h:=h) (L:=L) x hF;rw[hq]at r;have hl2:=r.len
 have A:xs.length<=9223372036854775807:=by
  have:xs.length*1<=xs.length*e.sz:=Nat.mul_le_mul_left _ e.pos;omega
 refine Ko.mk' A V.hw K V6 ?_ (r.mono (u.fz V7));have:2*xs.length / 2=xs.length:=V6;rw[this];omega
def ZKk{P:GW}{ts:GZ J}{a:O Addr}{r c:Nat}{y v:N}{E:Eff}{x0:Nat}(l:J2 P h ts (.slice a r c) y=some (v,E))(p:E.tgt=some x0):Um a x0:=by
 unfold J2 at l;cases A:ZaI P ts with|none=>rw[A]at l;cases l|some q=>
   have⟨q1,sz,by_,q4⟩:=q;rw[A]at l;dsimp only at l;cases t:reads h y sz with|none=>rw[t]at l;cases l|some new=>
     rw[t]at l;dsimp only at l;cases B:Nat.ble (r+JN y) (c / 2) with
     | true=>
       rw[B,Cq1]at l;cases m:Nat.beq (JN y) 0 with|true=>rw[m,Cq1]at l;cases l;cases p|false=>
         rw[m,Cq0]at l;split at l
         .split at l
          .rw[Bool.cond_eq_ite]at l;split at l;.cases l;cases p;exact⟨_,rfl⟩
           cases l
          cases l
         cases l
     | false=>
       rw[B,Cq0]at l;cases x:(Nat.ble ((2*(r+JN y)+1000)*by_) (2 ^ 47)&&new.all Value.oneCell') with|false=>rw[x,Cq0]at l;cases l|true=>
         rw[x,Cq1]at l;split at l
         .cases m:Nat.beq (c % 2) 0 with|true=>rw[m,Cq1]at l;cases l;cases p|false=>
            rw[m,Cq0]at l;split at l
            .split at l
             .rw[Bool.cond_eq_ite]at l;split at l;.cases l;cases p;exact⟨_,rfl⟩
              cases l
             cases l
            cases l
         cases l
def ZQD{ts:GZ J}{x y:GV}{a:O Addr}{m c:Nat}{v w:N}{E:Eff}{x0:Nat}(B:YM fr x=some (.slice a m c))(A:YM fr y=some w)(l:Qd X h (YM fr) ⟨some d,.call {callee:=.builtin .append,args:=#[x,y],argTypes:=ts},ty,p,af,g⟩=some (.val v,E))(C:E.tgt=some x0):Um a x0:=by have t:evs (YM fr) [x,y]=some [.slice a m c,w]:=Zb B (Zb A Zf);rw[K4]at l;have ZIj:evs (YM fr) (#[x,y]:GZ GV).toList=some [.slice a m c,w]:=t;rw[ZIj]at l;replace l:vE (J2 X.P h ts (.slice a m c) w)=some (.val v,E):=l;cases r:J2 X.P h ts (.slice a m c) w with|none=>rw[r]at l;cases l|some q=>rw[r]at l;have⟨v',E'⟩:=q;cases l;exact ZKk r C
def Jd{ts:GZ J}{x y:GV}{by_:Nat}{a V:O Addr}{C D c S:Nat}{xs ys l:U α}(B:Sp L T h0 G h)(pk:Pk G (ow L e a C c xs) Gr)(hi:Zev X.P ts e.sz by_)(I:YM fr x=some (.slice a C c))(F:YM fr y=some (.slice V D S))(W:Src e L h V S ys)(hn:D=ys.length)(ha:app by_ xs ys=some l):
 HV X L ⟨some d,.call {callee:=.builtin .append,args:=#[x,y],argTypes:=ts},ty,p,af,g⟩ fr h (Um a) (fun v r=>∃(m:O Addr) (c':Nat),v=.slice m l.length c'/\Sp L T h0 (ow L e m l.length c' l::Gr) r):=by
 obtain⟨h1,so⟩:=B.get pk;subst h1 hn
 refine ZQE (K:=HV X L ⟨some d,.call {callee:=.builtin .append,args:=#[x,y],argTypes:=ts},ty,p,af,g⟩ fr h (Um a) (fun v r=>∃(m:O Addr) (c':Nat),v=.slice m l.length c'/\Sp L T h0 (ow L e m l.length c' l::Gr) r))
  (J':=fun v r=>Up L (Um a) h r/\∃(m:O Addr) (c':Nat),v=.slice m l.length c'/\Sp L T h0 (ow L e m l.length c' l::Gr) r) L (fun v E h1 Q e2 ⟨u,j⟩=>⟨v,E,h1,Q,e2,fun x0 A=>?_,u.size,j⟩) hi V7 B.hw I F so W ha
  (fun m c' r u t hb=>⟨u,m,c',rfl,B.one pk u (fun i q=>q) ⟨rfl,t⟩ fun i q=>(hb i q).imp id fun z=>Nat.le_of_eq z.symm⟩)
 exact ZQD I F Q A
end
end
section
variable{X:Ctx}{n L:Nat}{rd:O Nat}{V:GZ Oper}{l:U Oper}{fr:Fr}{ds:U V2}{h h1 h2 h0:H}{ty:J}{p:String}{af:GZ Edge}{g:O (Nat×Z)}{m:Nat}{T:Nat->Prop}{G Gr Ga Gb:U (Ast L)}{d:Nat}{sf:ST}
section
variable{P:GW}{t:J}{i x0:Nat}{k x:N}{E:Eff}
def ZF2(l:Q7 P h t (.map (some i)) k x=some E)(p:E.tgt=some x0):x0=i:=by
 unfold Q7 at l;split at l
 .rename_i m _;cases m;rw[Bool.cond_eq_ite]at l;split at l
  .split at l
   .split at l
    .rw[Bool.cond_eq_ite]at l;split at l;.cases l;cases p;rfl
     cases l
    cases l
   .cases l;cases p;rfl
   cases l
  cases l
 cases l
def ZKh{m:J}{f:Y->O Z}{s:Y}(l:aks P h t (.map (some i)) k=some (m,x0,f,s)):x0=i:=by
 unfold aks at l;split at l
 .rename_i q;cases q;split at l;.rw[Bool.cond_eq_ite]at l;split at l<;>cases l;rfl
  cases l
 cases l
def ZKe(l:Qo P h t (.map (some i)) k x=some E)(m:E.tgt=some x0):x0=i:=by
 unfold Qo at l;split at l;next q=>cases l;exact ZF2 q m
 split at l;next p _=>cases l;cases m;exact ZKh p
 cases l
end
section
variable{κ ν:Type}[DecidableEq κ]{kt vt:J}{kv:κ->N}{vv:ν->N}{i:Nat}{ll:U (κ×ν)}
theorem ZgW{t:J}(kv:κ->N)(vv:ν->N)(m:Sp L T h0 G h):
 HN X L ⟨some d,.makeMap t none,ty,p,af,g⟩ fr h (fun v q=>∃b,h.size=b/\v=.map (some b)/\Sp L T h0 (mp L kv vv (some b) []::G) q):=
 ⟨.map (some h.size),.map [] 0,rfl,fun x r=>by rw[<-r];rfl,fun q u l _=>⟨h.size,rfl,rfl,m.new u ⟨⟨.inr ⟨h.size,[],0,rfl,l,rfl,by simp,by simp⟩⟩,fun i e=>by cases e;exact m.hw⟩ fun i e=>by cases e;exact K2 _⟩⟩
theorem Zfn{t:J}{x y z:GV}{k:κ}{v:ν}(F:Sp L T h0 G h)(pk:Pk G (mp L kv vv (some i) ll) Gr)(K:Ziw X.P kt kv)(hu:X.P.underlying t=some (.map kt vt))(D:YM fr x=some (.map (some i)))(C:YM fr y=some (kv k))(B:YM fr z=some (vv v)):
 HU X L ⟨none,.mapUpdate t x y z,ty,p,af,g⟩ fr h (fun j=>j=i) (fun A=>Sp L T h0 (mp L kv vv (some i) (Xh ll k v)::Gr) A):=by
 have⟨A,⟨E,ha,hE,_⟩,u,ho⟩:=ZMK (d:=none) (ty:=ty) (p:=p) (af:=af) (g:=g) K hu (K2 L) D rfl C B (F.get pk);refine⟨E,A,ha,hE,fun I q=>?_,u.size,F.one pk u (fun j e=>e) ho fun j e=>.inl e⟩;have l:(match YM fr x,YM fr y,YM fr z with|some m,some k,some x=>sE (Qo X.P h t m k x) | _,_,_=>none)=some (.skip,E):=ha;rw[D,C,B]at l;dsimp only at l;cases r:Qo X.P h t (.map (some i)) (kv k) (vv v) with|none=>rw[r]at l;cases l|some Q=>rw[r]at l;cases l;exact ZKe r q
end
end
section
variable{n:Nat}{rd:O Nat}{V:GZ Oper}{l:U Oper}{fr:Fr}{ds:U V2}{h1 h2:H}{ty:J}{p:String}{af:GZ Edge}{g:O (Nat×Z)}{m:Nat}{Ga Gb:U (Ast L)}{d:Nat}{sf:ST}
def CP{L:Nat}(K:N->U (Ast L)->Prop)(Ga:U (Ast L))(h:H):N->H->Prop:=fun v l=>∃Gb,K v Gb/\Sp L (JO Ga) h Gb l
def Yc(X:Ctx)(fr:Fr)(o:Oper)(f:GX)(args:GZ N):Prop:=∀h:H,Qd X h (YM fr) o=some (.enter f args,.none)
def Yc.fn{f:GX}{xs:GZ GV}{ts:GZ J}{vs:U N}{d:O Tmp}(l:(X.fns.get f).isSome=true)(m:evs (YM fr) xs.toList=some vs):Yc X fr ⟨d,.call {callee:=.value (.func f),args:=xs,argTypes:=ts},ty,p,af,g⟩ f vs.toArray:=fun h=>by
 have⟨fn,l⟩:=GJ.1 l;rw[Zfa,m];rw[Zu7];exact ZF9 l
def Yc.f{f:GX}{xs:GZ GV}{ts:GZ J}{vs:U N}{d:O Tmp}(h:evs (YM fr) xs.toList=some vs)(l:(X.fns.get f).isSome=true:=by kernel_rfl):Yc X fr ⟨d,.call {callee:=.value (.func f),args:=xs,argTypes:=ts},ty,p,af,g⟩ f vs.toArray:=.fn l h
def Yc.clo{f:GX}{m:GV}{xs:GZ GV}{ts:GZ J}{vs first cap args:U N}{d:O Tmp}(r:YM fr m=some (.func (.func f) first.toArray cap.toArray))(l:(X.fns.get f).isSome=true)(q:evs (YM fr) xs.toList=some vs)(t:first++vs++cap=args):
 Yc X fr ⟨d,.call {callee:=.value m,args:=xs,argTypes:=ts},ty,p,af,g⟩ f args.toArray:=fun h=>by
 have⟨fn,l⟩:=GJ.1 l;subst t;rw[Zfa,q];dsimp only;rw[r];dsimp only;unfold WB;dsimp only;rw[l]
def WO.en{Q:XX->Fs->Prop}{m:Op}{f:GX}{args:GZ N}{v:N}{h2:H}(q:Yh V ⟨some d,m,ty,p,af,g⟩ fr)(r:Nat.blt d n=true)(he:Yc X fr ⟨some d,m,ty,p,af,g⟩ f args)
 (t:YW X (.call f args L h) (.fin (.ret v) h2)) (k:WO X n L rd V l ⟨Tr.set fr d v,ds,h2,none⟩ Q):WO X n L rd V (⟨some d,m,ty,p,af,g⟩::l) ⟨fr,ds,h,none⟩ Q:=
 WO.call q r (he h) rfl t k
def WO.cl{Q:XX->Fs->Prop}{r:Op}{f:GX}{args:GZ N}{K:N->U (Ast L)->Prop}(B:Yh V ⟨some d,r,ty,p,af,g⟩ fr)(C:Nat.blt d n=true)(he:Yc X fr ⟨some d,r,ty,p,af,g⟩ f args)(t:Sp L T h0 G h)(pk:Sel G Ga Gr)
 (D:∀m:H,m.size=h.size->Fz L h m->Z0 Ga m->WR X f args L m (CP K Ga m)) (k:∀v q Gb,K v Gb->Sp L T h0 (Gb++Gr) q->WO X n L rd V l ⟨Tr.set fr d v,ds,q,none⟩ Q):
 WO X n L rd V (⟨some d,r,ty,p,af,g⟩::l) ⟨fr,ds,h,none⟩ Q:=by
 obtain⟨e,q,⟨v,rfl,Gb,y,x⟩,A⟩:=D h rfl (Fz.refl _ _) (t.ZcE pk);exact WO.en B C he A (k v q Gb y (t.call pk x))
def V9{Q:XX->Fs->Prop}{q:Op}{f:FuncId}{args:Array Value}{K:Value->List (Ast L)->Prop}(he:Yc X fr ⟨some d,q,ty,p,af,none⟩ f args)(y:Sp L T h0 G h)(pk:Sel G Ga Gr)
 (x:∀m:H,m.size=h.size->Fz L h m->Z0 Ga m->WR X f args L m (CP K Ga m)) (k:∀v r Gb,K v Gb->Sp L T h0 (Gb++Gr) r->WO X n L rd V l ⟨Tr.set fr d v,ds,r,none⟩ Q) (t:Nat.blt d n=true:=by exact rfl):WO X n L rd V (⟨some d,q,ty,p,af,none⟩::l) ⟨fr,ds,h,none⟩ Q:=WO.cl gN t he y pk x k
def JK.mono{P:GW}{o:Oper}{M m:Nat->Prop}{v:N}(x:∀i,i<h.size->M i->m i)(s:JK P L rd V o M fr h v h2):JK P L rd V o m fr h v h2:=fun ρ a w F K Q r B t A y=>
 s ρ a w F K Q r B t A fun l v' w' hv q p=>y l v' w' hv q (p.weaken x r.lt)
def Sp.ZSp(q:Z0 Ga h)(c:Sp L (JO Ga) h Gb h2):WH (JO Ga) h h2:=by
 refine⟨c.size,c.keep,fun i p m=>?_,fun i p m=>?_⟩
 .by_cases l:JO Ga i;.exact(q.own l).2
  rwa[c.keep i p l]at m
 by_cases l:JO Ga i;.exact WT (q.own l).2
 rwa[c.keep i p l]at m
open Classical in
def Ut (L:Nat) (h:H) (R:Nat ->Prop):List Nat:= (List.range h.size).filter fun x=>decide (L <=x∧(h.at x).own=true∧¬ R x)
def Wj{R:Nat->Prop}{x:Nat}:x∈Ut L h R↔x<h.size/\L<=x/\(h.at x).own=true/\¬ R x:=by unfold Ut;simp
def WX.clC{Q:Fr->H->Prop}(to:U (Nat×(Nat->Prop))){I:Op}{f:GX}{args:GZ N}{K:N->U (Ast L)->Prop}(hg:Yh V ⟨some d,I,ty,p,af,g⟩ fr)(hd:Nat.blt d n=true)(he:Yc X fr ⟨some d,I,ty,p,af,g⟩ f args)(hS:Sp L T h0 G h)(pk:Sel G Ga Gr)
 (hc:∀g':H,g'.size=h.size->Fz L h g'->Z0 Ga g'->WR X f args L g' (CP K Ga g')) (k:∀v h' Gb,K v Gb->Sp L T h0 (Gb++Gr) h'->WX X n L rd V ⟨sf.s,to++sf.m,sf.p⟩ (m+1) h' l (Tr.set fr d v) Q)
 (hh:Yu ⟨some d,I,ty,p,af,g⟩=false) (hto:∀x,JO Ga x->x<h.size->∃q∈to,q.1=m/\q.2 x) (htb:∀q∈to,∀x,q.2 x->x<h.size) (hM:okM V sf m ⟨some d,I,ty,p,af,g⟩=true) (hB:∀x,JO Ga x->∀i o',i<m->V.toList[i]? =some o'->Cmp V i m\/Yu o'=true\/∃V',(i,V')∈sf.s/\V' x):
 WX X n L rd V sf m h (⟨some d,I,ty,p,af,g⟩::l) fr Q:=by
 have ha:=hS.ZcE pk;have hw:=hS.hw;have y:∀x,x∉Ut L h (JO Ga)->(mask (Ut L h (JO Ga)) h).at x=h.at x:=fun x r=>by rw[QF,if_neg r]
 have S:∀x,JO Ga x->x∉Ut L h (JO Ga):=fun x r q=>(Wj.1 q).2.2.2 r
 have F:Fz L h (mask (Ut L h (JO Ga)) h):=by
  refine⟨by rw[ZX];exact K2 _,fun i cs own z e s=>?_,fun i h1 h2=>?_⟩
  .rw[y i fun q=>?_,e];have q:=Wj.1 q;rcases s with s|s
   .omega
   rw[e]at q;subst s;exact Bool.noConfusion q.2.2.1
  exact y i fun q=>by have:=(Wj.1 q).2.1;omega
 have hha:Z0 Ga (mask (Ut L h (JO Ga)) h):=⟨fun A hA=>A.loc F (fun i f=>y i (S i ⟨A,hA,f⟩)) (ha.all A hA),ha.dis⟩;obtain⟨e,B,⟨v,rfl,Gb,hk,D⟩,hj⟩:=hc _ (ZX _ _) F hha;have E:h.size<=B.size:=by have:=D.size;rwa[ZX]at this
 have P:=JD (Ut L h (JO Ga)) h B E;have t:∀x,x∉Ut L h (JO Ga)->(Jf (Ut L h (JO Ga)) h B).at x=B.at x:=fun x r=>by rw[P,if_neg (fun q=>r q.1)]
 have hin:∀x,x∈Ut L h (JO Ga)->B.at x=.dead:=fun x r=>by
  have q:=Wj.1 r;rw[D.keep x (by rw[ZX];exact q.1) q.2.2.2,QF,if_pos r]
 have hf2:Fz L B (Jf (Ut L h (JO Ga)) h B):=by
  refine⟨by rw[Qb];exact K2 _,fun i cs own z e _=>?_,fun i h1 _=>t i fun q=>by have:=(Wj.1 q).2.1;omega⟩;rw[t i fun q=>?_,e];rw[hin i q]at e;cases e
 have hsp:Sp L (JO Ga) h Gb (Jf (Ut L h (JO Ga)) h B):=by
  refine⟨hw,(F.trans D.fz).trans hf2,fun i hi hn=>?_,⟨fun A hA=>A.loc hf2 (fun i f=>t i fun q=>?_) (D.hold.all A hA),D.hold.dis⟩,fun i f=>by have:=D.inn i f;rwa[ZX]at this⟩
  .by_cases r:i∈Ut L h (JO Ga);.rw[P,if_pos ⟨r,hi⟩]
   rw[t i r,D.keep i (by rw[ZX];exact hi) hn,y i r]
  have q':=Wj.1 q;rcases D.inn i ⟨A,hA,f⟩ with z|z
  .exact q'.2.2.2 z
  rw[ZX]at z;omega
 have hown:∀x,JO Ga x->x<h.size:=fun x r=>ZvP (ha.own r).2
 refine⟨fun hb=>WE.cons (T:=JO Ga) (xs0:=Ut L h (JO Ga)) (v:=v) (h2:=Jf (Ut L h (JO Ga)) h B) [] to none ?_ (fun _ z=>by simp at z) hto
  (fun x r hl i o' hi' ho'=>?_) (fun hh q hq=>.inl (WU hM hh q hq)) (fun x j C z=>by cases z) ((k v _ Gb hk (hS.call pk hsp)).out fun q hq x r=>?_)⟩
 .refine⟨fun _=>⟨B,rfl,(ZpD hg (he _) (by rw[ZX];exact hw) hj).mono fun i hi W=>?_,D.ZSp hha⟩,fun x r=>(ha.own r).1,fun d' e=>by cases e;rwa[G5]at hd,fun q=>Bool.noConfusion (hh.symm.trans q),fun x r _=>S x r⟩;rw[ZX]at hi;by_cases ht:JO Ga i;.exact ht
  exfalso;by_cases r:i∈Ut L h (JO Ga);.rw[QF,if_pos r]at W;cases W.2
  rw[y i r]at W;exact r (Wj.2 ⟨hi,W.1,W.2,ht⟩)
 .exact(hB x r i o' hi' ho').imp (fun z=>z) fun z=>z.imp (fun z=>z) .inl
 rw[Qb];rcases J0.1 hq with z|z
 .exact J1 (htb q z x r) E
 exact J1 (hb q z x r) E
def WX.cl{Q:Fr->H->Prop}{t:Op}{f:GX}{args:GZ N}{K:N->U (Ast L)->Prop}(S:Yh V ⟨some d,t,ty,p,af,g⟩ fr)(W:Nat.blt d n=true)(he:Yc X fr ⟨some d,t,ty,p,af,g⟩ f args)(hS:Sp L T h0 G h)(pk:Sel G Ga Gr)
 (hc:∀y:H,y.size=h.size->Fz L h y->Z0 Ga y->WR X f args L y (CP K Ga y)) (k:∀v D Gb,K v Gb->Sp L T h0 (Gb++Gr) D->WX X n L rd V ⟨sf.s,(m,fun x=>JO Ga x/\x<h.size)::sf.m,sf.p⟩ (m+1) D l (Tr.set fr d v) Q)
 (P:Yu ⟨some d,t,ty,p,af,g⟩=false) (hM:okM V sf m ⟨some d,t,ty,p,af,g⟩=true) (C:U Nat) (hB:okB V m C=true) (I:Yv sf (JO Ga) C):
 WX X n L rd V sf m h (⟨some d,t,ty,p,af,g⟩::l) fr Q:=
 WX.clC [(m,fun x=>JO Ga x/\x<h.size)] S W he hS pk hc k P (fun x r F=>⟨_,Gf.2 rfl,rfl,r,F⟩) (fun q E x r=>by rw[Gf.1 E]at r;exact r.2) hM fun x r i o' B A=>(ZsE hB B A).imp (fun z=>z) fun z=>z.imp (fun z=>z) fun z=>let⟨V',q1,q2⟩:=I i z;⟨V',q1,q2 x r⟩
def WX.cl0{Q:Fr->H->Prop}{r:Op}{f:GX}{args:GZ N}{K:N->U (Ast L)->Prop}(D:Yh V ⟨some d,r,ty,p,af,g⟩ fr)(E:Nat.blt d n=true)(he:Yc X fr ⟨some d,r,ty,p,af,g⟩ f args)(I:Sp L T h0 G h)(pk:Sel G [] Gr)
 (F:∀t:H,t.size=h.size->Fz L h t->Z0 ([]:U (Ast L)) t->WR X f args L t (CP K [] t)) (k:∀v y Gb,K v Gb->Sp L T h0 (Gb++Gr) y->WX X n L rd V sf (m+1) y l (Tr.set fr d v) Q)
 (C:Yu ⟨some d,r,ty,p,af,g⟩=false) (P:okM V sf m ⟨some d,r,ty,p,af,g⟩=true):
 WX X n L rd V sf m h (⟨some d,r,ty,p,af,g⟩::l) fr Q:=
 WX.clC [] D E he I pk F k C (fun x ⟨A,q,_⟩=>by simp at q) (fun q B=>by simp at B) P fun x ⟨A,q,_⟩=>by simp at q
def WX.ZVY{Q:Fr->H->Prop}{t:Op}{f:GX}{args:GZ N}{v:N}(G:Yh V ⟨some d,t,ty,p,af,g⟩ fr)(I:Nat.blt d n=true)(he:Yc X fr ⟨some d,t,ty,p,af,g⟩ f args)(y:Grow h h2)(F:YW X (.call f args h.size h) (.fin (.ret v) h2))
 (k:WX X n L rd V sf (m+1) h2 l (Tr.set fr d v) Q) (B:Yu ⟨some d,t,ty,p,af,g⟩=false) (P:okM V sf m ⟨some d,t,ty,p,af,g⟩=true):WX X n L rd V sf m h (⟨some d,t,ty,p,af,g⟩::l) fr Q:=by
 refine⟨fun K=>WE.cons (T:=fun _=>False) (xs0:=[]) (v:=v) (h2:=h2) [] [] none ?_ (fun _ z=>by simp at z) (fun _ z=>z.elim) (fun _ z=>z.elim) (fun B q A=>.inl (WU P B q A)) (fun x j C z=>by cases z) (k.out fun q A x D=>J1 (K q A x D) y.size)⟩;refine⟨fun _=>⟨h2,rfl,(ZpD G (he h) V7 F).mono fun i r E=>absurd E.1 (Nat.not_le_of_lt r),y.size,fun i r _=>y.keep i r,fun i r q=>by rwa[y.keep i r]at q,fun i r q=>by rwa[y.keep i r]at q⟩,fun _ z=>z.elim,fun S e=>by cases e;rwa[G5]at I,fun q=>Bool.noConfusion (B.symm.trans q),fun _ z=>z.elim⟩
def WO.cp{Q:XX->Fs->Prop}{m:Op}{f:GX}{args:GZ N}{v:N}(r:Yh V ⟨some d,m,ty,p,af,g⟩ fr)(t:Nat.blt d n=true)(he:Yc X fr ⟨some d,m,ty,p,af,g⟩ f args)(q:Pure X f args h v)(k:WO X n L rd V l ⟨Tr.set fr d v,ds,h,none⟩ Q):
 WO X n L rd V (⟨some d,m,ty,p,af,g⟩::l) ⟨fr,ds,h,none⟩ Q:=WO.en r t he (q L) k
def WX.cp{Q:Fr->H->Prop}{q:Op}{f:GX}{args:GZ N}{v:N}(x:Yh V ⟨some d,q,ty,p,af,g⟩ fr)(y:Nat.blt d n=true)(he:Yc X fr ⟨some d,q,ty,p,af,g⟩ f args)(r:Pure X f args h v)
 (k:WX X n L rd V sf (m+1) h l (Tr.set fr d v) Q) (t:Yu ⟨some d,q,ty,p,af,g⟩=false) (A:okM V sf m ⟨some d,q,ty,p,af,g⟩=true):WX X n L rd V sf m h (⟨some d,q,ty,p,af,g⟩::l) fr Q:=WX.ZVY x y he (Grow.refl h) (r _) k t A
def WO.gcp{Q:XX->Fs->Prop}{m:Op}{f:GX}{args:GZ N}{v:N}{c:Z}(q:Zh V ⟨some d,m,ty,p,af,g⟩ fr c)(r:Nat.blt d n=true)(he:c=true->Yc X fr ⟨some d,m,ty,p,af,g⟩ f args)(t:c=true->Pure X f args h v)(k:WO X n L rd V l ⟨Tr.set fr d (cond c v undef),ds,h,none⟩ Q):
 WO X n L rd V (⟨some d,m,ty,p,af,g⟩::l) ⟨fr,ds,h,none⟩ Q:=by
 cases c;.exact WO.Ql q rfl r k
 exact WO.cp q r (he rfl) (t rfl) k
def WX.gcp{Q:Fr->H->Prop}{q:Op}{f:GX}{args:GZ N}{v:N}{c:Z}(r:Zh V ⟨some d,q,ty,p,af,g⟩ fr c)(t:Nat.blt d n=true)(he:c=true->Yc X fr ⟨some d,q,ty,p,af,g⟩ f args)(y:c=true->Pure X f args h v)
 (k:WX X n L rd V sf (m+1) h l (Tr.set fr d (cond c v undef)) Q) (A:Yu ⟨some d,q,ty,p,af,g⟩=false) (x:okM V sf m ⟨some d,q,ty,p,af,g⟩=true):WX X n L rd V sf m h (⟨some d,q,ty,p,af,g⟩::l) fr Q:=by
 cases c;.exact WX.off r t k x
 exact WX.cp r t (he rfl) (y rfl) k A x
def WO.inl{Q:XX->Fs->Prop}{m:Op}{f:GX}{args:GZ N}(x:Yh V ⟨some d,m,ty,p,af,g⟩ fr)(y:Nat.blt d n=true)(he:Yc X fr ⟨some d,m,ty,p,af,g⟩ f args)
 (k:WR X f args L h (fun v q=>WO X n L rd V l ⟨Tr.set fr d v,ds,q,none⟩ Q)):WO X n L rd V (⟨some d,m,ty,p,af,g⟩::l) ⟨fr,ds,h,none⟩ Q:=by
 obtain⟨e,q,⟨v,rfl,r⟩,t⟩:=k;exact WO.en x y he t r
def ZEp{l:Type}{e:WG l}{a:O Addr}{m c:Nat}{xs:U l}{h':H}(p:Sp L T h0 G h)(pk:Pk G (ow L e a m c xs) Gr)(u:Up L (Um a) h h')(s:Sl e L h' a c xs):m=xs.length/\Sp L T h0 (Yp L (Yz e) (a,c) xs::Gr) h':=
 ⟨(p.get pk).1,p.one pk u (fun _ q=>q) s fun _ z=>z.elim⟩
def WO.fzn{Q:XX->Fs->Prop}{p:Type}{e:WG p}{a:O Addr}{q c:Nat}{xs:U p}(r:Sp L T h0 G h)(pk:Pk G (ow L e a q c xs) Gr)(k:∀m,q=xs.length/\Sp L T h0 (Yp L (Yz e) (a,c) xs::Gr) m->WO X n L rd V l ⟨fr,ds,m,none⟩ Q):WO X n L rd V l ⟨fr,ds,h,none⟩ Q:=
 WO.freeze (K2 L) (r.get pk).2 fun m u s=>k m (ZEp r pk u s)
def WC.fzn{Q:XX->Fs->Prop}{r:Code}{m:Type}{e:WG m}{a:O Addr}{p c:Nat}{xs:U m}(q:Sp L T h0 G h)(pk:Pk G (ow L e a p c xs) Gr)(k:∀l,p=xs.length/\Sp L T h0 (Yp L (Yz e) (a,c) xs::Gr) l->WC X n L rd r ⟨fr,ds,l,none⟩ Q):WC X n L rd r ⟨fr,ds,h,none⟩ Q:=
 WC.freeze (K2 L) (q.get pk).2 fun l u s=>k l (ZEp q pk u s)
def Sp.JJ{l:Type}{e:WG l}{a:O Addr}{c:Nat}{xs:U l}(s:Sp L T h0 G h)(pk:Pk G (Yp L (Yz e) (a,c) xs) Gr):Sl e L h a c xs:=s.get pk
end
def k0{h:Type}{A:h}{G:U h}:Pk (A::G) A G:=.z
def k1{h:Type}{A b:h}{G:U h}:Pk (b::A::G) A (b::G):=.s k0
def k2{h:Type}{A b c:h}{G:U h}:Pk (b::c::A::G) A (b::c::G):=.s k1
def k3{h:Type}{A b c d:h}{G:U h}:Pk (b::c::d::A::G) A (b::c::d::G):=.s k2
def k4{h:Type}{A b c d e:h}{G:U h}:Pk (b::c::d::e::A::G) A (b::c::d::e::G):=.s k3
def k5{h:Type}{A b c d e f:h}{G:U h}:Pk (b::c::d::e::f::A::G) A (b::c::d::e::f::G):=.s k4
def k6{h:Type}{A b c d e f g:h}{G:U h}:Pk (b::c::d::e::f::g::A::G) A (b::c::d::e::f::g::G):=.s k5
def k7{l:Type}{A b c d e f g h:l}{G:U l}:Pk (b::c::d::e::f::g::h::A::G) A (b::c::d::e::f::g::h::G):=.s k6
def Sel.a{l:Type}{A:l}{G Ga Gr:U l}(h:Sel G Ga Gr):Sel (A::G) (A::Ga) Gr:=Sel.c k0 h
def Sel.b{l:Type}{A x:l}{G Ga Gr:U l}(h:Sel (x::G) Ga Gr):Sel (x::A::G) (A::Ga) Gr:=Sel.c k1 h
def Sel.d{l:Type}{A x y:l}{G Ga Gr:U l}(h:Sel (x::y::G) Ga Gr):Sel (x::y::A::G) (A::Ga) Gr:=Sel.c k2 h
def Sel.e{l:Type}{A x y z:l}{G Ga Gr:U l}(h:Sel (x::y::z::G) Ga Gr):Sel (x::y::z::A::G) (A::Ga) Gr:=Sel.c k3 h
def Sel.f{l:Type}{A x y z u:l}{G Ga Gr:U l}(h:Sel (x::y::z::u::G) Ga Gr):Sel (x::y::z::u::A::G) (A::Ga) Gr:=Sel.c k4 h
def Sel.g{l:Type}{A x y z u v:l}{G Ga Gr:U l}(h:Sel (x::y::z::u::v::G) Ga Gr):Sel (x::y::z::u::v::A::G) (A::Ga) Gr:=Sel.c k5 h
def Sel.i{l:Type}{A x y z u v w:l}{G Ga Gr:U l}(h:Sel (x::y::z::u::v::w::G) Ga Gr):Sel (x::y::z::u::v::w::A::G) (A::Ga) Gr:=Sel.c k6 h
def Sel.j{l:Type}{A x y z u v w t:l}{G Ga Gr:U l}(h:Sel (x::y::z::u::v::w::t::G) Ga Gr):Sel (x::y::z::u::v::w::t::A::G) (A::Ga) Gr:=Sel.c k7 h
def k8{l:Type}{A b c d e f g h i:l}{G:U l}:Pk (b::c::d::e::f::g::h::i::A::G) A (b::c::d::e::f::g::h::i::G):=.s k7
def k9{l:Type}{A b c d e f g h i j:l}{G:U l}:Pk (b::c::d::e::f::g::h::i::j::A::G) A (b::c::d::e::f::g::h::i::j::G):=.s k8
def k10{l:Type}{A b c d e f g h i j k:l}{G:U l}:Pk (b::c::d::e::f::g::h::i::j::k::A::G) A (b::c::d::e::f::g::h::i::j::k::G):=.s k9
def k11{m:Type}{A b c d e f g h i j k l:m}{G:U m}:Pk (b::c::d::e::f::g::h::i::j::k::l::A::G) A (b::c::d::e::f::g::h::i::j::k::l::G):=.s k10
def k12{p:Type}{A b c d e f g h i j k l m:p}{G:U p}:Pk (b::c::d::e::f::g::h::i::j::k::l::m::A::G) A (b::c::d::e::f::g::h::i::j::k::l::m::G):=.s k11
def k13{p:Type}{A b c d e f g h i j k l m n:p}{G:U p}:Pk (b::c::d::e::f::g::h::i::j::k::l::m::n::A::G) A (b::c::d::e::f::g::h::i::j::k::l::m::n::G):=.s k12
def k14{p:Type}{A b c d e f g h i j k l m n o:p}{G:U p}:Pk (b::c::d::e::f::g::h::i::j::k::l::m::n::o::A::G) A (b::c::d::e::f::g::h::i::j::k::l::m::n::o::G):=.s k13
def k15{q:Type}{A b c d e f g h i j k l m n o p:q}{G:U q}:Pk (b::c::d::e::f::g::h::i::j::k::l::m::n::o::p::A::G) A (b::c::d::e::f::g::h::i::j::k::l::m::n::o::p::G):=.s k14
def At.eqv{h l:H}{b o:Nat}{vs:U N}(e:l.at b=h.at b)(a:At h b o vs):At l b o vs:=by have⟨cs,own,z,h1,h2⟩:=a;exact⟨cs,own,z,by rw[e,h1],h2⟩
section
variable{Ga:U (Ast L)}{A B:Ast L}
def Sp.nil{l:Type}(s:Sp L T h0 G h){e:WG l}:Sp L T h0 (ow L e none 0 0 ([]:U l)::G) h:=s.add ⟨rfl,Ko.nil⟩ fun i=>Um.none
def Sp.dj(s:Sp L T h0 G h)(p:Sel G [A,B] Gr):∀x,A.fp x->¬ B.fp x:=fun x a b=>by
 have:=(s.ZcE p).dis;exact(List.pairwise_cons.1 this).1 B Vd x a b
def Sp.Zba{l:Type}{e:WG l}{a:O Addr}{c:Nat}{xs:U l}(s:Sp L T h0 G h)(p:Pk G (Yp L (Yz e) (a,c) xs) Gr):Sl e h.size h a c xs:=(s.JJ p).up s.hw
def Sp.ms{q p:Type}{kv:q->N}{vv:p->N}{m:O Nat}{l:U (q×p)}(s:Sp L T h0 G h)(f:ZoG kv vv L h0 m l):ZoG kv vv L h m l:=f.fz s.fz
end
def ZCv{b:Z}(h:(!b)=true):b=false:=by cases b<;>simp_all
def ZCw{b:Z}(h:(!b)=false):b=true:=by cases b<;>simp_all
section
variable{ev:GV->O N}{d:Nat}{ty:J}{p:String}{af:GZ Edge}{g:O (Nat×Z)}
def ZF{l:Type}{xs:U l}{v:l}{x y:GV}{t e:J}{m b o q c:Nat}{a:O Addr}{k:Int}(hu:X.P.underlying t=some (.slice e))(B:YX X.P e=some m)(A:ev x=some (.slice a q c))(r:ev y=some (V4 k))(hn:q=xs.length)(D:a=some ⟨b,o,none⟩)(C:Z7 xs k=some v):
 Qd X h ev ⟨some d,.indexAddr t x y,ty,p,af,g⟩=some (.val (.pointer (some ⟨b,o+k.toNat*m,none⟩)),.none):=by subst hn;exact ZWo hu B A r D C
def Kh{q x y:GV}{b:Z}{v:N}(m:ev q=some (.bool b))(r:b=true)(l:ev x=some v):Qd X h ev ⟨some d,.pick q x y,ty,p,af,g⟩=some (.val v,.none):=by subst r;rw[Zil,m];rw[l];rfl
def Uf{q x y:GV}{b:Z}{v:N}(m:ev q=some (.bool b))(r:b=false)(l:ev y=some v):Qd X h ev ⟨some d,.pick q x y,ty,p,af,g⟩=some (.val v,.none):=by subst r;rw[Zil,m];rw[l];rfl
end
def WR.JE{X:Ctx}{f:GX}{args:GZ N}{h:H}{v:N}(l:plain v=true)(k:WR X f args h.size h (CP (L:=h.size) (fun v' Gb=>v'=v/\Gb=[]) [] h)):Pure X f args h v:=
 WF.ZR9 l (k.mono fun _ _ ⟨v',h1,_,h2,_⟩=>⟨v',h1,h2.1⟩)
section
variable{n:Nat}{rd:O Nat}{V:GZ Oper}{fr:Fr}{h1 h2:H}{ty:J}{p:String}{af:GZ Edge}{g:O (Nat×Z)}{Ga Gb:U (Ast L)}{d:Nat}
structure Ne(α:Type) where
 sz:Nat
 pos:0<sz
 Par:Type
 dflt:Par
 sh:Par->α->List Value
 len:∀p x,(sh p x).length=sz
 one:∀p x,(sh p x).all Value.oneCell'=true
 YK:(L:Nat)->Par->α->List (Ast L)
end
section
variable{n:Nat}{rd:O Nat}{V:GZ Oper}{l:U Oper}{fr:Fr}{h1 h2:H}{ty:J}{p:String}{af:GZ Edge}{g:O (Nat×Z)}{Ga Gb:U (Ast L)}{d m:Nat}{sf:ST}
structure ZGj{α:Type}(e:WG α)(a:Option Addr)(c:Nat)(xs:List α)(a':Option Addr)(c':Nat)(zs:List α):Prop where
 own:∀{L:Nat}{h:H},Ko e L L h a c xs->Ko e L L h a' c' zs
 sl:∀{L:Nat}{h:H},Sl e L h a c xs->Sl e L h a' c' zs
 base:∀i,Um a' i->Um a i
def Zsp{r:Type}{xs p:U r}{lo m:Int}(h:slL xs lo m=some p):∃l k:Nat,lo=(l:Int)/\m=(k:Int)/\l<=k/\k<=xs.length/\p=(xs.take k).drop l:=by
 unfold slL at h;by_cases h1:0<=lo
 .rw[decide_eq_true h1,G3]at h;by_cases h2:lo<=m
  .rw[decide_eq_true h2,G3]at h;by_cases q:m<=xs.length;.rw[decide_eq_true q]at h;cases h;exact⟨lo.toNat,m.toNat,by omega,by omega,by omega,by omega,rfl⟩
   rw[decide_eq_false q]at h;cases h
  rw[decide_eq_false h2]at h;cases h
 rw[decide_eq_false h1]at h;cases h
def JL.piece{r:Type}{e:WG r}{cs:U N}{o:Nat}{xs:U r}{l k:Nat}(a:JL e L h cs o xs)(A:l<=k)(t:k<=xs.length):JL e L h cs (o+l*e.sz) ((xs.take k).drop l):=by
 have m:((xs.take k).drop l).length=k-l:=by rw[GC,Gt];omega
 refine⟨?_,fun j x p=>?_⟩
 .rw[m];have:=a.len;have h1:k*e.sz<=xs.length*e.sz:=GP _ t;have h2:l*e.sz+(k-l)*e.sz=k*e.sz:=by rw[<-Nat.add_mul];congr 1;omega
  omega
 have y:j<k-l:=by have:=(Li0 p).1;rwa[m]at this
 rw[GS,List.getElem?_take_of_lt V6]at p;have⟨q,g1,g2⟩:=a.get _ x p;refine⟨q,?_,g2⟩;rw[<-g1,Nat.add_mul];congr 2;omega
def Zqa{E:Type}{e:WG E}{i o c:Nat}{xs:U E}{l k r c':Nat}(K:l<=k)(P:k<=xs.length)(x:(r=o+l*e.sz/\c' / 2=c / 2-l)\/(r=o/\c / 2=l/\c' / 2=0)):
 ZGj e (some ⟨i,o,none⟩) c xs (some ⟨i,r,none⟩) c' ((xs.take k).drop l):=by
 have m:((xs.take k).drop l).length=k-l:=by rw[GC,Gt];omega
 refine⟨fun{L h} s=>?_,fun{L h} s=>?_,fun I ⟨G,T⟩=>by cases T;exact⟨o,rfl⟩⟩
 .rcases s.mem with⟨q,_⟩|⟨I,G,cs,C,B,A,F,V,Q⟩
  .cases q
  cases C;have D:=s.max;refine⟨by rw[m];omega,.inr ⟨i,r,cs,rfl,B,A,?_,?_,?_⟩⟩
  .rw[m];rcases x with⟨_,z⟩|⟨_,y,t⟩
   .rw[z];omega
   omega
  .rcases x with⟨p,z⟩|⟨p,y,t⟩
   .rw[z,p];have h2:l*e.sz+(c / 2-l)*e.sz=c / 2*e.sz:=by rw[<-Nat.add_mul];congr 1;omega
    omega
   rw[t,p,Nat.zero_mul];omega
  rcases x with⟨p,z⟩|⟨p,y,t⟩
  .rw[p];exact Q.piece K P
  have he:(xs.take k).drop l=[]:=by apply Gd;rw[m];omega
  rw[he];exact JL.nil V6
 have D:=s.max;refine⟨by rw[m];omega,?_,.inr (.inr ⟨i,r,rfl⟩),?_⟩;.have:=s.cap;rw[m];rcases x with⟨_,z⟩|⟨_,y,t⟩<;>omega
 rcases s.mem with q|⟨I,G,cs,own,z,C,B,A,F⟩
 .left;subst q;simp
 cases C;by_cases S:k-l=0;.left;apply Gd;rw[m];exact S
 right;refine⟨i,r,cs,own,z,rfl,B,A,?_⟩;rcases x with⟨p,z⟩|⟨p,y,t⟩
 .rw[p];exact F.piece K P
 have:=s.cap;omega
def Zp9{h:Type}{e:WG h}{a:O Addr}{xs:U h}{l k:Nat}(m:xs=[]):ZGj e a 0 xs a 0 ((xs.take k).drop l):=by
 subst m;have:(([]:U h).take k).drop l=[]:=by simp
 rw[this];exact⟨fun s=>s,fun s=>s,fun i f=>f⟩
def ZQy{α:Type}{e:WG α}{t el:J}{x:GV}{lo y:O GV}{a:O Addr}{nn c:Nat}{xs zs:U α}{a1 a2:Int}(so:Ko e L L h a c xs)(hn:nn=xs.length)(hu:X.P.underlying t=some (.slice el))(hs:YX X.P el=some e.sz)(hx:YM fr x=some (.slice a nn c))
 (K:evo (YM fr) lo=some none/\a1=0\/∃k,evo (YM fr) lo=some (some (.int k a1))) (S:evo (YM fr) y=some none/\a2=xs.length\/∃k,evo (YM fr) y=some (some (.int k a2))) (hz:slL xs a1 a2=some zs):
 ∃a' c',Qd X h (YM fr) ⟨some d,.slice t x lo y none,ty,p,af,g⟩=some (.val (.slice a' zs.length c'),.none)/\ZGj e a c xs a' c' zs:=by
 obtain⟨l,k,rfl,rfl,E,C,rfl⟩:=Zsp hz;subst hn;have A:((xs.take k).drop l).length=k-l:=by rw[GC,Gt];omega
 obtain⟨r,V,G⟩:∃r,evo (YM fr) lo=some r/\obN r 0=some l:=by
  rcases K with⟨z,z2⟩|⟨kk,z⟩
  .exact⟨none,z,by have:l=0:=V6
                   subst this;rfl⟩
  exact⟨_,z,rfl⟩
 obtain⟨q,W,I⟩:∃q,evo (YM fr) y=some q/\obN q xs.length=some k:=by
  rcases S with⟨z,z2⟩|⟨kk,z⟩
  .exact⟨none,z,by have:k=xs.length:=V6
                   subst this;rfl⟩
  exact⟨_,z,rfl⟩
 have D:∀v,aslice X.P h t (.slice a xs.length c) r q none=some v->Qd X h (YM fr) ⟨some d,.slice t x lo y none,ty,p,af,g⟩=some (.val v,.none):=fun v hv=>by
  show(match YM fr x,evo (YM fr) lo,evo (YM fr) y,evo (YM fr) none with
   | some x,some lo,some y,some mx=>bif plain x&&not (Zs2 x) then(match lo,y,mx with|lo,y,mx=>bif Jq (lo.toList++y.toList++mx.toList) then pN (KC X.P (Instr.sliceAt t x lo y mx)) else none)
     else vN (aslice X.P h t x lo y mx)
   | _,_,_,_=>none)=_
  rw[hx,V,W];show(bif plain (.slice a xs.length c)&&not (Zs2 (.slice a xs.length c)) then _ else vN (aslice X.P h t (.slice a xs.length c) r q none))=_;have:Zs2 (.slice a xs.length c)=true:=rfl;rw[this,Q1,Bool.and_false,Cq0,hv];rfl
 rcases so.mem with⟨rfl,rfl,rfl⟩|⟨i,o,cs,rfl,q2,q3,q4,q5,q6⟩
 .have Q:k=0:=by simpa using C
  have B:l=0:=V6;subst Q B;refine⟨none,0,D _ ?_,Zp9 rfl⟩;have ZZV:obN q 0=some 0:=I
  have:aslice X.P h t (V3) r q none=some (V3):=by
   unfold aslice;simp only[hu,hs,G,ZZV]
  exact this
 have m:∀v,(bif Nat.ble l k&&Nat.ble k (c / 2) then
  bif Nat.beq (c % 2) 0 then some (Value.slice (some ⟨i,bif Nat.beq (c / 2) l then o else o+l*e.sz,none⟩) (k-l) (2*(c / 2-l)))
  else bif Nat.beq l 0 then some (.slice (some ⟨i,o,none⟩) k c)
  else match h.at i with|.row _ true s=>bif Nat.beq s e.sz&&Nat.ble 1 e.sz then some (.slice (some ⟨i,o+l*e.sz,none⟩) (k-l) (2*(c / 2-l)+1)) else none|_=>none
  else none)=some v->aslice X.P h t (.slice (some ⟨i,o,none⟩) xs.length c) r q none=some v:=fun v hv=>by
  unfold aslice;simp only[hu,hs,G,I];exact hv
 have b1:(Nat.ble l k&&Nat.ble k (c / 2))=true:=by rw[Nm0 E,Nm0 (KK C q4)];rfl
 rw[b1]at m;simp only[Cq1]at m;cases F:Nat.beq (c % 2) 0 with
 | true=>
   rw[F]at m;simp only[Cq1]at m;refine⟨_,_,D _ (by rw[A];exact m _ rfl),Zqa E C ?_⟩;cases T:Nat.beq (c / 2) l with|true=>right;have:=Nb0 T;exact⟨rfl,this,by omega⟩|false=>left;exact⟨rfl,by omega⟩
 | false=>
   rw[F]at m;simp only[Cq0]at m;cases B:Nat.beq l 0 with
   | true=>
     have:=Nb0 B;subst this;rw[B]at m;simp only[Cq1]at m;exact⟨_,_,D _ (by rw[A];exact m _ rfl),Zqa E C (.inl ⟨by omega,by omega⟩)⟩
   | false=>
     rw[B,q3]at m;simp only[Cq0]at m;have b2:(Nat.beq e.sz e.sz&&Nat.ble 1 e.sz)=true:=by rw[Nat.beq_refl,Nm0 (show 1<=e.sz from e.pos)];rfl
     rw[b2]at m;exact⟨_,_,D _ (by rw[A];exact m _ rfl),Zqa E C (.inl ⟨rfl,by omega⟩)⟩
end
section
variable{n:Nat}{rd:O Nat}{V:GZ Oper}{l:U Oper}{fr:Fr}{ds:U V2}{h1 h2:H}{ty:J}{p:String}{af:GZ Edge}{g:O (Nat×Z)}{Ga Gb:U (Ast L)}{d m:Nat}{sf:ST}
section
variable{α:Type}{e:WG α}{a a1:O Addr}{nn c n1 c1:Nat}{ps:Nat->O Addr×Nat×Nat}{xs:U (U α)}
def Zbe{ev:GV->O N}{x:GV}{v:N}(h:ev x=some v):evo ev (some x)=some (some v):=by show(match ev x with|some v=>some (some v) | none=>none)=_;rw[h]
end
def Zrm{f:GX}:YM fr (.func f)=some (.func (.func f) #[] #[]):=Zu7 fr f
end
section
variable{ev:GV->O N}{d:O Tmp}{ty:J}{p:String}{af:GZ Edge}{g:O (Nat×Z)}
def ZpM{h:BinOp}{t:J}{x y:GV}{k:IntKind}{a b c:Int}(p:binOp h t (.int k a) (.int k b)=pure (.int k c))(hn:h≠.eql/\h≠.neq):Q0 P h t x y (.int k a) (.int k b)=some (.val (.int k c),.none):=by
 have l:(plain (.int k a)&&plain (.int k b))=true:=rfl;unfold Q0;rw[l,Cq1]
 have m:(do eqGuard h t x y (.int k a) (.int k b);binOp h t (.int k a) (.int k b):Sem N)=pure (.int k c):=by
  rw[p];cases h<;>first|rfl|exact absurd rfl hn.1|exact absurd rfl hn.2
 rw[m];rfl
def ZpL{t:J}{x y:GV}{a b c:Int}(h:ZvO a b=some c):Q0 P .quo t x y (V4 a) (V4 b)=some (.val (V4 c),.none):=by obtain⟨h1,rfl⟩:=Zz6 h;exact ZpM (by simp[binOp,Op.intDiv,h1,Xa]) ⟨by simp,by simp⟩
def ZpK{t:J}{x y:GV}{k:IntKind}{a b c:Int}(h:ZvM a b=some c):Q0 P .rem t x y (.int k a) (.int k b)=some (.val (.int k c),.none):=by obtain⟨h1,rfl⟩:=Zz4 h;exact ZpM (by simp[binOp,Op.intDiv,h1]) ⟨by simp,by simp⟩
def ZFS{s t:J}{x:GV}{k l:IntKind}{a:Int}{q:TypeDesc}(A:X.P.underlying s=some q)(y:X.P.underlying t=some (.int l))(r:ev x=some (.int k a)):Qd X h ev ⟨d,.convert s t x,ty,p,af,g⟩=some (.val (.int l (l.wrap a)),.none):=by
 have:Qd X h ev ⟨d,.convert s t x,ty,p,af,g⟩=(match ev x with|some a=>bif plain a then pN (KC X.P (convert s t a)) else vN (ZjL X.P h s t a)|none=>none):=rfl;rw[this,r];have m:plain (.int k a)=true:=rfl;dsimp only;rw[m,Cq1]
 have B:ZP X.P (convert s t (.int k a))=some (.ok (.int l (l.wrap a))):=by
  unfold convert;rw[prb (Xi A),prb (Xi y)];rfl
 unfold KC;rw[B];rfl
def ZgD{x y:GV}{ts:GZ J}{k:IntKind}{a b:Int}(q:ev x=some (.int k a))(m:ev y=some (.int k b)):Qd X h ev ⟨d,.call {callee:=.builtin .max,args:=#[x,y],argTypes:=ts},ty,p,af,g⟩=some (.val (.int k (if b>a then b else a)),.none):=by have l:evs ev (#[x,y]:GZ GV).toList=some [.int k a,.int k b]:=Zb q (Zb m Zf);rw[K4,l];show(bif Jq [.int k a,.int k b] then pN (KC X.P (Builtin.max_ ts ty #[.int k a,.int k b])) else none)=_;have:Builtin.max_ ts ty #[.int k a,.int k b]=pure (.int k (if b>a then b else a)):=rfl;rw[this];rfl
end
section
variable{n:Nat}{rd:O Nat}{V:GZ Oper}{ol:U Oper}{fr:Fr}{ds:U V2}{ty:J}{p:String}{af:GZ Edge}{g:O (Nat×Z)}{d l df:Nat}{LO:YN}{ps:GZ Tmp}{YK bd:Code}
def bsy:YN->YN
 | .loop _ l fr n h YK p m=>.loop .busy l fr n h YK p m
 | A=>A
structure RgE(L l:Nat)(fr:Fr)(n:Nat)(ps:Array Tmp)(YK bd:Code)(df:Nat)(ds:List Deferred)(Q:XX->Fs->Prop)(h:H):Prop where
 at_:h.at l=.loop .ready none fr n ps YK bd df
 low:L<=l
 k:∀h',Up L (fun i=>i=l) h h'->Q .normal ⟨fr,⟨.collected df,#[]⟩::ds,h',none⟩
def RgE.sp{Q:XX->Fs->Prop}(q:LO=.loop .ready none fr n ps YK bd df)(r:Sp L T h0 G h)(pk:Pk G (ob L l LO) Gr)(k:∀p,Sp L T h0 Gr p->Q .normal ⟨fr,⟨.collected df,#[]⟩::ds,p,none⟩):RgE L l fr n ps YK bd df ds Q h:=by have⟨h1,h2,h3⟩:=r.get pk;refine⟨h1.trans q,h2,fun p u=>k p ?_⟩;exact Sp.step (Ga:=[ob L l LO]) (Gb:=[]) (r.perm pk.perm) u (fun i e=>⟨_,Gf.2 rfl,e⟩) Z0.nil fun i ⟨A,m,f⟩=>by simp at m
def Zf4{A:YN}(l:A.own=true)(s:Sp L T h0 Gr h):Sp L T h0 (ob L h.size A::Gr) (h.push A):=
 Sp.new s (Up.push L h A) ⟨Wy h A,s.hw,l⟩ fun i e=>by have:i=h.size:=e;omega
def WC.ZM2{Q:XX->Fs->Prop}{t:GV}{f:GX}{first cap:U N}(I:Sp L T h0 G h)(F:YM fr t=some (.func (.func f) first.toArray cap.toArray))(q:(X.fns.get f).isSome=true)
 (k:∀B l x D,D=YN.loop .ready none fr n ps YK bd x->Sp L T h0 (ob L l D::ob L x .deferred::G) B->WR X f (first++([Value.func (.yield l) #[] #[]]++cap)).toArray L B (fun _ h2=>RgE L l fr n ps YK bd x ds Q h2)):
 WC X n L none (.rangeFunc t ps YK bd) ⟨fr,ds,h,none⟩ Q:=by
 have s1:Sp L T h0 (ob L h.size .deferred::G) (h.push .deferred):=Zf4 rfl I
 have s2:Sp L T h0 (ob L (h.size+1) (.loop .ready none fr n ps YK bd h.size)::ob L h.size .deferred::G) ((h.push .deferred).push (.loop .ready none fr n ps YK bd h.size)):=by
  have:=Zf4 (A:=.loop .ready none fr n ps YK bd h.size) rfl s1;rwa[H.size_push]at this
 have⟨fn,q⟩:=GJ.1 q;obtain⟨e,y,⟨v,rfl,p⟩,E⟩:=k _ _ _ _ rfl s2;have m:=p.at_;refine⟨.normal,_,p.k (y.put (h.size+1) (.loop .exhausted none fr n ps YK bd h.size)) (Up.put p.low (by rw[m];rfl)),?_⟩;refine XB.2 (Ju (C:=cfg X fun _=>false) (ih:=JF (.call f _ L _) (.fin (.ret v) y)) (XH E) ?_);show Qm (cfg X fun _=>false) _ t n L none (h.size+1) ⟨fr,⟨.collected h.size,#[]⟩::ds,(h.push .deferred).push (.loop .ready none fr n ps YK bd h.size),none⟩=_;unfold Qm;dsimp only;rw[F]
 have r:WB (cfg X fun _=>false).X ((h.push .deferred).push (.loop .ready none fr n ps YK bd h.size)) (.func (.func f) first.toArray cap.toArray) [Value.func (.yield (h.size+1)) #[] #[]]=some (.enter f (first++([Value.func (.yield (h.size+1)) #[] #[]]++cap)).toArray,.none):=by
  unfold WB;have:(cfg X fun _=>false).X.fns.get f=some fn:=q;dsimp only;rw[this];simp[Q4]
 dsimp only;rw[r];dsimp only;unfold J8;rw[XI];dsimp only;rw[m];rfl
def WR.ZSq{f:GX}{args:GZ N}{K:N->H->Prop}{m β:Type}{r:β}(p:m->N->H->Prop)(j:m->O β)(k:∀x v l,j x=some r->p x v l->K v l)(q:WR X f args L h (fun v l=>∃x,j x=some r/\p x v l)):WR X f args L h K:=
 q.mono fun _ l ⟨v,e,x,h1,h2⟩=>⟨v,e,k x v l h1 h2⟩
def AsK.sp{r:Fr}{R:H->Prop}(m:LO=.loop .ready none fr n ps YK bd df)(p:Sp L T h0 G h)(pk:Pk G (ob L l LO) Gr)(k:∀h1,Sp L T h0 (ob L l (bsy LO)::Gr) h1->WC X n L (some l) bd ⟨r,ds,h1,none⟩ (BdK n L l fr ps YK bd df R)):AsK X n L L l fr ps YK bd df R .normal ⟨r,ds,h,none⟩:=by have⟨h1,h2,h3⟩:=p.get pk;refine AsK.mk' (h1.trans m) fun t u e=>k t ?_;exact p.one pk (u h2) (fun _ q=>q) ⟨by rw[e,m];rfl,h2,by rw[m];rfl⟩ fun _ q=>.inl q
def BdK.sp{Xk:Fr}{R:H->Prop}(hLO:LO=.loop .ready none fr n ps YK bd df)(hS:Sp L T h0 G h)(pk:Pk G (ob L l (bsy LO)) Gr)(k:∀h1,Sp L T h0 (ob L l LO::Gr) h1->R h1):BdK n L l fr ps YK bd df R .normal ⟨Xk,ds,h,none⟩:=by have⟨h1,h2,h3⟩:=hS.get pk;refine BdK.mk' (h1.trans (by rw[hLO];rfl)) fun h' u e=>k h' ?_;exact hS.one pk (u h2) (fun _ q=>q) ⟨by rw[e,hLO],h2,by rw[hLO];rfl⟩ fun _ q=>.inl q
def WO.ZXs{Q:XX->Fs->Prop}{A:GV}{xs:GZ GV}{ts:GZ J}{vs:U N}{x:Nat}{B r:Fr}{m t:Code}(K:Yh V ⟨some d,.call {callee:=.value A,args:=xs,argTypes:=ts},ty,p,af,g⟩ fr)(S:Nat.blt d n=true)(P:YM fr A=some (.func (.yield l) #[] #[]))(E:evs (YM fr) xs.toList=some vs)
 (W:Sp L T h0 G h) (pk:Pk G (ob L l LO) Gr) (y:LO=.loop .ready none B x ps m t df) (C:Nat.beq vs.length ps.toList.length=true) (F:Qz (ps.toList.zip vs) x B=some r)
 (k:WC X x L (some l) m ⟨r,[],h,none⟩ (AsK X x L L l B ps m t df (fun D=>WO X n L rd V ol ⟨Tr.set fr d (.bool true),ds,D,none⟩ Q))):
 WO X n L rd V (⟨some d,.call {callee:=.value A,args:=xs,argTypes:=ts},ty,p,af,g⟩::ol) ⟨fr,ds,h,none⟩ Q:=by
 have⟨h1,h2,h3⟩:=W.get pk;have q:=h1.trans y;refine WO.yld K S P E q (Nb0 C) (Zve.mk' (lo:=L) q h2 C F k) fun b D ⟨e,I⟩=>?_;rw[e];exact I
def Yi.Zjx{fn:Func}{R:Kn->H->Prop}(p:Sp L T h0 G h)(pk:Pk G (ob L df .deferred) Gr)(k:∀l,Sp L T h0 Gr l->Yi X fn L R .ret ⟨fr,ds,l,none⟩):Yi X fn L R .ret ⟨fr,⟨.collected df,#[]⟩::ds,h,none⟩:=by have⟨h1,h2,h3⟩:=p.get pk;refine Yi.col L h2 h1 h2 fun l u=>k l ?_;exact Sp.step (Ga:=[ob L df .deferred]) (Gb:=[]) (p.perm pk.perm) u (fun i e=>⟨_,Gf.2 rfl,e⟩) Z0.nil fun i ⟨A,m,f⟩=>by simp at m
end
section
variable{n:Nat}{rd:O Nat}{V:GZ Oper}{l:U Oper}{fr:Fr}{ds:U V2}{h1 h2:H}{ty:J}{p:String}{af:GZ Edge}{g:O (Nat×Z)}{m:Nat}{Ga Gb:U (Ast L)}{d:Nat}{sf:ST}
def HW(X:Ctx)(L:Nat)(o:Oper)(fr:Fr)(h:H)(K:H->Prop):Prop:=∃v E h1,Qd X h (YM fr) o=some (.val v,E)/\E.apply L h=some h1/\K h1
def ZjH{t:J}{x:GV}{lo l mx:O GV}{a:O Addr}{y c:Nat}{q r m:O N}{v:N}(D:YM fr x=some (.slice a y c))(B:evo (YM fr) lo=some q)(C:evo (YM fr) l=some r)(A:evo (YM fr) mx=some m)(hv:aslice X.P h t (.slice a y c) q r m=some v):
 Qd X h (YM fr) ⟨some d,.slice t x lo l mx,ty,p,af,g⟩=some (.val v,.none):=by
 show(match YM fr x,evo (YM fr) lo,evo (YM fr) l,evo (YM fr) mx with
  | some x,some lo,some l,some mx=>bif plain x&&not (Zs2 x) then(match lo,l,mx with|lo,l,mx=>bif Jq (lo.toList++l.toList++mx.toList) then pN (KC X.P (Instr.sliceAt t x lo l mx)) else none)
    else vN (aslice X.P h t x lo l mx)
  | _,_,_,_=>none)=_
 rw[D,B,C,A];show(bif plain (.slice a y c)&&not (Zs2 (.slice a y c)) then _ else vN (aslice X.P h t (.slice a y c) q r m))=_;have:Zs2 (.slice a y c)=true:=rfl;rw[this,Q1,Bool.and_false,Cq0,hv];rfl
end
section
variable{n:Nat}{rd:O Nat}{V:GZ Oper}{l:U Oper}{fr:Fr}{ds:U V2}{h1 h2:H}{ty:J}{p:String}{af:GZ Edge}{g:O (Nat×Z)}{m:Nat}{Ga Gb:U (Ast L)}{d:Nat}{sf:ST}
def HE(X:Ctx)(o:Oper)(fr:Fr)(h:H)(K:N->Prop):Prop:=∃v,Qd X h (YM fr) o=some (.val v,.none)/\K v
def WO.he{Q:XX->Fs->Prop}{m:Op}{K:N->Prop}(q:Yh V ⟨some d,m,ty,p,af,g⟩ fr)(r:Nat.blt d n=true)(s:HE X ⟨some d,m,ty,p,af,g⟩ fr h K)(k:∀v,K v->WO X n L rd V l ⟨Tr.set fr d v,ds,h,none⟩ Q):
 WO X n L rd V (⟨some d,m,ty,p,af,g⟩::l) ⟨fr,ds,h,none⟩ Q:=let⟨v,ha,hk⟩:=s;WO.w q r ha (k v hk)
def WX.he{Q:Fr->H->Prop}{q:Op}{K:N->Prop}(r:Yh V ⟨some d,q,ty,p,af,g⟩ fr)(t:Nat.blt d n=true)(s:HE X ⟨some d,q,ty,p,af,g⟩ fr h K)(k:∀v,K v->WX X n L rd V sf (m+1) h l (Tr.set fr d v) Q)(x:okM V sf m ⟨some d,q,ty,p,af,g⟩=true):
 WX X n L rd V sf m h (⟨some d,q,ty,p,af,g⟩::l) fr Q:=let⟨v,ha,hk⟩:=s;WX.w r t ha (k v hk) x
section
variable{α:Type}{e:WG α}{t el:J}{x:GV}{a:O Addr}{nn c:Nat}{xs zs ws us:U α}{a1 a2 a3:Int}
def ZCh{lo q:O GV}(y:Ko e L L h a c xs)(hn:nn=xs.length)(hu:X.P.underlying t=some (.slice el))(C:YX X.P el=some e.sz)(B:YM fr x=some (.slice a nn c))
 (m:evo (YM fr) lo=some none/\a1=0\/∃k,evo (YM fr) lo=some (some (.int k a1))) (r:evo (YM fr) q=some none/\a2=xs.length\/∃k,evo (YM fr) q=some (some (.int k a2))) (A:slL xs a1 a2=some zs):
 HE X ⟨some d,.slice t x lo q none,ty,p,af,g⟩ fr h (fun v=>∃l c',v=.slice l zs.length c'/\ZGj e a c xs l c' zs):=
 let⟨l,c',h1,h2⟩:=ZQy (d:=d) (ty:=ty) (p:=p) (af:=af) (g:=g) y hn hu C B m r A;⟨_,h1,l,c',rfl,h2⟩
end
end
section
variable{X:Ctx}{n L:Nat}{rd:O Nat}{V:GZ Oper}{l:U Oper}{fr:Fr}{ds:U V2}{h h1 h2 h0:H}{ty:J}{p:String}{af:GZ Edge}{g:O (Nat×Z)}{T:Nat->Prop}{G Gr Ga Gb:U (Ast L)}{d:Nat}
def YR{l β:Type}{y:l}{p:Int->O β}{k:l->O β}{r:β}(h:UJ (.ok y) p k=some r):k y=some r:=h
def Yn{l β:Type}{e:Int}{p:Int->O β}{k:l->O β}{r:β}(h:UJ (.Yq e) p k=some r):p e=some r:=h
def pv(t:J)(k:Int):N:=.iface t (bif Nat.beq t 147 then .agg #[V4 k] else V4 k)
def PQ{β:Type}{L:Nat}(t:J)(K:β->N->U (Ast L)->Prop)(Ga:U (Ast L))(h:H)(r:PR β):Kn->H->Prop:=fun e l=>match r with|.ok b=>∃v,e=.ret v/\CP (K b) Ga h v l|.Yq k=>e=.Yq (pv t k)/\Sp L (JO Ga) h [] l
section
variable{β:Type}{t:J}{K:β->N->U (Ast L)->Prop}{f:GX}{args:GZ N}
def PQ.ok{b:β}(k:WF X f args L h (PQ t K Ga h (.ok b))):WR X f args L h (CP (K b) Ga h):=k
def PQ.Yq{k:Int}(w:WF X f args L h (PQ t K Ga h (.Yq k))):∃l,Sp L (JO Ga) h [] l/\YW X (.call f args L h) (.fin (.Yq (pv t k)) l):=
 let⟨_,l,hq,hj⟩:=w;⟨l,hq.2,by have:=hq.1;subst this;exact hj⟩
def WO.clX{Q:XX->Fs->Prop}{r:Op}{k:Int}(A:Yh V ⟨some d,r,ty,p,af,g⟩ fr)(he:Yc X fr ⟨some d,r,ty,p,af,g⟩ f args)(x:Sp L T h0 G h)(pk:Sel G Ga Gr)
 (B:∀m:H,m.size=h.size->Fz L h m->Z0 Ga m->WF X f args L m (PQ t K Ga m (.Yq k))) (y:∀q,Sp L T h0 Gr q->Q (.panic (pv t k)) ⟨fr,ds,q,none⟩):
 WO X n L rd V (⟨some d,r,ty,p,af,g⟩::l) ⟨fr,ds,h,none⟩ Q:=by
 have⟨q,hs,hj⟩:=PQ.Yq (B h rfl (Fz.refl _ _) (x.ZcE pk));exact WO.Znj A (he h) rfl hj (y q (x.call pk hs))
def Yi.Zaj{fn:Func}{m:U ResultVar}{vs:U N}{v:N}{b:β}{l:H}(p:fn.results.toList=m)(hv:Zeh X.P fr h m=some vs)(q:(match vs with | [v]=>v|vs=>.tuple vs.toArray)=v)(k:CP (K b) Ga l v h):Yi X fn L (PQ t K Ga l (.ok b)) .ret ⟨fr,[],h,none⟩:=
 Yi.gen (R:=fun v r=>CP (K b) Ga l v r) p hv q k
end
def XP(X:Ctx)(fn:Func)(L:Nat)(Q:Kn->H->Prop)(l:PM)(s:Fs):Prop:=∃E h,Q E h/\YW X (.leave fn L l s) (.fin E h)
section
variable{fn:Func}{R:Kn->H->Prop}{s:Fs}{v:N}{pm:PM}
def Yi.ofP(k:XP X fn L R .ret s):Yi X fn L R .ret s:=let⟨E,h',h1,h2⟩:=k;⟨⟨.ret,E,h',rfl,h1,h2⟩⟩
def Yi.ofX(k:XP X fn L R (.Yq v) s):Yi X fn L R (.panic v) s:=let⟨E,h',h1,h2⟩:=k;⟨⟨.Yq v,E,h',rfl,h1,h2⟩⟩
def XP.ofL(k:Yi X fn L R .ret s)(h:pm=.ret):XP X fn L R pm s:=by have⟨pm',E,h',e,h1,h2⟩:=k.out;cases e;subst h;exact⟨E,h',h1,h2⟩
def XP.Yq(k:R (.Yq v) h):XP X fn L R (.Yq v) ⟨fr,[],h,none⟩:=by refine⟨.Yq v,h,k,Ua (C:=cfg X fun _=>false) (ih:=fun _=>none) (fun _ _ h=>by cases h) ?_⟩;unfold U4;rfl
def DC(X:Ctx)(n L:Nat)(c:Code)(l:PM)(s:Fs)(Q:XX->PM->Fs->Prop):Prop:=∃e h s',Q e h s'/\YW X (.Qn c n L l s) (.Qn e h s')
structure DSq(X:Ctx)(n L:Nat)(b:Code)(Q:XX->PM->Fs->Prop)(e:XX)(pm:PM)(s:Fs):Prop where
 Yx:e=.normal
 k:DC X n L b pm s Q
def DC.seq{a b:Code}{Q:XX->PM->Fs->Prop}(k:DC X n L a pm s (DSq X n L b Q)):DC X n L (.seq a b) pm s Q:=by obtain⟨e,G,s1,⟨rfl,e2,F,s2,P,I⟩,K⟩:=k;have⟨_,_,_,q,ka⟩:=QO.1 K;cases q;have⟨_,_,_,p,kb⟩:=QO.1 I;cases p;refine⟨_,_,_,P,QO.2 ⟨_,_,_,rfl,fun ρ a c0 cs w A y r=>wpSIn_seq (JU (ka ρ a c0 cs w A y r) ?_)⟩⟩;rintro e' T cs' w' ⟨m,C,rfl,t,he,x,h⟩;cases he;refine JU (kb m T {c0 with mode:=C} cs w' (KK A h.size) x t) ?_;rintro W a3 S V ⟨l,B,rfl,q,p,E,D⟩;exact⟨l,B,rfl,q,p,E,h.trans y.rel.lt D⟩
def DC.rgn{id:Nat}{V:GZ Oper}{h:Z}{Q:XX->PM->Fs->Prop}(hn:(!h&&V.toList.any isRecover)=false)(k:WC X n L none (.region id V h) s (fun e s'=>Q e pm s')):DC X n L (.region id V h) pm s Q:=by have⟨e,s',hq,j⟩:=k;refine⟨e,pm,s',hq,QO.2 (Ub (C:=cfg X fun _=>false) (ih:=JF (.code (.region id V h) n L none s) (.code e s')) (XH (XB.2 ⟨_,_,rfl,j⟩)) ?_)⟩;unfold ZaH;dsimp only;rw[hn];unfold Zcg;rw[XI];rfl
def DC.skip{Q:XX->PM->Fs->Prop}(k:Q .normal pm s):DC X n L .skip pm s Q:=by obtain⟨e,s',h,j⟩:WC X n L none .skip s (fun e s'=>Q e pm s'):=WC.skip k;refine⟨e,pm,s',h,QO.2 (Ub (C:=cfg X fun _=>false) (ih:=JF (.code .skip n L none s) (.code e s')) (XH (XB.2 ⟨_,_,rfl,j⟩)) ?_)⟩;unfold ZaH Zcg;dsimp only;rw[XI];rfl
def DC.ZFz{c:GV}{a b:Code}{t:Z}{Q:XX->PM->Fs->Prop}{fr:Fr}(m:YM fr c=some (.bool t))(l:t=true)(k:DC X n L a pm ⟨fr,ds,h,none⟩ Q):DC X n L (.cond c a b) pm ⟨fr,ds,h,none⟩ Q:=by subst l;have⟨e,pm',s',hq,j⟩:=k;refine⟨e,pm',s',hq,QO.2 (Ub (C:=cfg X fun _=>false) (ih:=JF (.Qn a n L pm ⟨fr,ds,h,none⟩) (.Qn e pm' s')) (XH j) ?_)⟩;unfold ZaH;dsimp only;rw[m];exact XI _ _
def DC.Zzi{c:GV}{a b:Code}{t:Z}{Q:XX->PM->Fs->Prop}{fr:Fr}(m:YM fr c=some (.bool t))(l:t=false)(k:DC X n L b pm ⟨fr,ds,h,none⟩ Q):DC X n L (.cond c a b) pm ⟨fr,ds,h,none⟩ Q:=by subst l;have⟨e,pm',s',hq,j⟩:=k;refine⟨e,pm',s',hq,QO.2 (Ub (C:=cfg X fun _=>false) (ih:=JF (.Qn b n L pm ⟨fr,ds,h,none⟩) (.Qn e pm' s')) (XH j) ?_)⟩;unfold ZaH;dsimp only;rw[m];exact XI _ _
def DC.rec{id:Nat}{V:GZ Oper}{Q:XX->PM->Fs->Prop}(l:PM)(m:Fr)(q:ZuA X n L V.toList V.toList pm ⟨fr,ds,h,none⟩=some (l,⟨m,ds,h,none⟩))(hn:V.toList.any isRecover=true)(k:Q .normal l ⟨m,ds,h,none⟩):DC X n L (.region id V false) pm ⟨fr,ds,h,none⟩ Q:=by refine⟨.normal,l,_,k,QO.2 (Ub (C:=cfg X fun _=>false) (ih:=fun _=>none) (fun _ _ h=>by cases h) ?_)⟩;unfold ZaH;dsimp only;rw[hn];have p:ZuA (cfg X fun _=>false).X n L V.toList V.toList pm ⟨fr,ds,h,none⟩=some (l,⟨m,ds,h,none⟩):=q;rw[p];rfl
structure DEn(X:Ctx)(fn:Func)(L:Nat)(R:Kn->H->Prop)(fr:Fr)(ds:List Deferred)(e:XX)(pm:PM)(s:Fs):Prop where
 Yx:e=.normal
 no:s.ds=[]
 k:XP X fn L R (Zkz pm) ⟨fr,ds,s.h,none⟩
end
section
def WO.pnc{Q:XX->Fs->Prop}{x:GV}{t:J}{v:N}(q:Yh V ⟨none,.panic x,ty,p,af,g⟩ fr)(m:YM fr x=some (.iface t v))(k:Q (.panic (.iface t v)) ⟨fr,ds,h,none⟩):WO X n L rd V (⟨none,.panic x,ty,p,af,g⟩::l) ⟨fr,ds,h,none⟩ Q:=by refine WO.panic (E:=.none) (h1:=h) q ?_ rfl k;show(match YM fr x with|some (.iface t v)=>some (AN.panic (.iface t v),Eff.none)|_=>none)=_;rw[m]
def ZjC{x:GV}{t:J}{v:N}(q:YM fr x=some v)(l:(match X.P.underlying t with|some (.interface _)=>false|some _=>true|none=>false)=true):Qd X h (YM fr) ⟨some d,.makeInterface t x,ty,p,af,g⟩=some (.val (.iface t v),.none):=by
 show(match YM fr x,X.P.underlying t with|some _,some (.interface _)=>none|some v,some _=>some (AN.val (.iface t v),Eff.none)|_,_=>none)=_
 rw[q];cases m:X.P.underlying t with|none=>rw[m]at l;cases l|some u=>
   rw[m]at l;cases u;case interface=>cases l
   all_goals rfl
end
end
section
variable{n:Nat}{rd:O Nat}{V:GZ Oper}{l:U Oper}{rest:Code}
def WO.body{s:Fs}{Q:XX->Fs->Prop}(k:WO X n L rd V l s (YL X n L rd rest Q)):∃e s',Q e s'/\∀{ρ:Ren}{F:Fence}{a:Act}{w:GY},Inv ρ n s a w->L<=s.h.size->FR' ρ rd F->∀x:Exit->Act->GY->Prop,(∀A t w',Qx L n ρ s.h w e s' A t w'->x A t w') ->
 wpListIn F 0 X.P V (Exit.then (rest.wpIn F 0 X.P x) x) l a w:=by
 have⟨e1,s1,y,ho⟩:=k.out;have y:=y.out;cases e1 with
 | normal=>
   have⟨e,s',hq,hj⟩:=y;have⟨_,_,q0,kb⟩:=XB.1 hj;cases q0;refine⟨e,s',hq,fun{ρ F a w} m hw p x r=>ho _ m hw p fun A t w' q=>?_⟩;have⟨ρ',he,hi',hst⟩:=q;cases he;exact wpIn_mono (kb ρ' t w' F (KK hw hst.size) hi' (p.mono hst.ext)) fun C D w2 B=>r _ _ _ (Qx.trans m.rel.lt hst B)
 | exit id=>
   refine⟨_,s1,y,fun{ρ F a w} m hw p x r=>ho _ m hw p fun A t w' q=>?_⟩;have⟨ρ',he,hi',hst⟩:=q;cases he;exact r _ _ _ ⟨ρ',.exit id,hi',hst⟩
 | goto id=>
   refine⟨_,s1,y,fun{ρ F a w} m hw p x r=>ho _ m hw p fun A t w' q=>?_⟩;have⟨ρ',he,hi',hst⟩:=q;cases he;exact r _ _ _ ⟨ρ',.goto id,hi',hst⟩
 | ret=>
   refine⟨_,s1,y,fun{ρ F a w} m hw p x r=>ho _ m hw p fun A t w' q=>?_⟩;have⟨ρ',he,hi',hst⟩:=q;cases he;exact r _ _ _ ⟨ρ',.ret,hi',hst⟩
 | panic v=>
   refine⟨_,s1,y,fun{ρ F a w} m hw p x r=>ho _ m hw p fun A t w' q=>?_⟩;have⟨ρ',he,hi',hst⟩:=q;cases he with|panic hv=>exact r _ _ _ ⟨ρ',.panic hv,hi',hst⟩
def EL.mem'{ρ:Ren}{es es':U V0}(e:EL ρ es es'){x:V0}(m:x∈es):∃l∈es',l.born=x.born:=by
 induction e with|nil=>cases m|cons r q p hv _ ih=>
   rcases Ks.1 m with rfl|h
   .exact⟨_,by simp,p⟩
   have⟨l,h1,h2⟩:=ih h;exact⟨l,Kx _ h1,h2⟩
def ZC3{s:Fs}{id:Nat}{o:Oper}{t it m QW clock d:Nat}{es:U V0}{T:U Nat}{v:N}{e:XX}{s2:Fs}(Yq:Nat->Z)
 (hops:V.toList=o::l) (hop:o.op=.next (.tmp t) false) (hgu:o.guard=none) (hfr:s.fr.at t=(V5 it)) (hit:s.h.at it=.iter m clock QW none) (hm:s.h.at m=.map es clock) (hck:clock<=QW) (hborn:JA clock es=true) (Zv8:L<=it) (htT:t∉T) (hd:o.dst=some d) (hdn:d<n) (hdT:d∈T) (hv:plain v=true)
 (ZlV:∀x∈es,∃ex s3,(s3.ds=s.ds/\(∀t,t∉T->s3.fr.at t=s.fr.at t)/\(ex=.normal/\Yq x.born=false\/ex=.panic v/\Yq x.born=true))/\∀{ρ:Ren}{F:Fence}{a:Act}{w:GY},Inv ρ n {fr:=UO (Y1 T s.fr) o.dst (.tuple #[.bool true,x.key,x.val]),ds:=s.ds,h:=s.h.put it (.iter m clock clock (some x.born)),wr:=s.wr} a w->s.h.size<=(s.h.put it (.iter m clock clock (some x.born))).size->FR' ρ rd F->∀Q':Exit->Act->GY->Prop,
   (∀I a' w',Qx s.h.size n ρ (s.h.put it (.iter m clock clock (some x.born))) w ex s3 I a' w'->Q' I a' w')->wpListIn F 0 X.P V (Exit.then (rest.wpIn F 0 X.P Q') Q') l a w)
 (W:(∀x∈es,Yq x.born=false)->e≠.normal/\∀{ρ:Ren}{F:Fence}{a:Act}{w:GY},Inv ρ n {s with fr:=UO (Y1 T s.fr) o.dst UK,h:=s.h.put it .dead} a w->L<=(s.h.put it .dead).size->FR' ρ rd F->∀Q':Exit->Act->GY->Prop,
   (∀I a' w',Qx L n ρ (s.h.put it .dead) w e s2 I a' w'->Q' I a' w')->wpListIn F 0 X.P V (Exit.then (rest.wpIn F 0 X.P Q') Q') l a w)
 (Zog:(∃x∈es,Yq x.born=true)->e=.panic v/\s2= {s with fr:=Y1 T s.fr,h:=s.h.put it .dead}):YW X (.loop (.seq (.region id V false) rest) n L rd s) (.code e s2):=by
 refine Zb4.2 ⟨e,s2,rfl,fun ρ a0 w0 F ZA D hF=>?_⟩;obtain⟨dd,hdr⟩:∃d,d=it:=⟨_,rfl⟩;have Zwb:=D.fr.val t (by rw[hfr];rfl);rw[hfr]at Zwb;generalize hpx:a0.tmps.getD t undef=px at Zwb;cases Zwb with|@ptr _ bi di _ Zf9=>
 have hoi:=D.rel.obj _ _ _ Zf9;rw[hit]at hoi;obtain⟨rfl,bm,ZR1,ZlQ,ZDS,_,Zgc⟩:=hoi;obtain rfl:=Zgc rfl;have hom:=D.rel.obj _ _ _ ZlQ;rw[hm]at hom;have⟨_,es',ZDO,hes⟩:=hom;have hilt:=D.rel.dom _ _ _ Zf9;have ZYS:=D.rel.dom _ _ _ ZlQ;have Zwe:m≠it:=fun z=>by rw[z,hit]at hm;cases hm
 have hold:∀x∈es'.toList,x.born<clock:=by
  intro x hx;have⟨y,hy,_,_,hyb,_⟩:=hes.mem hx;rw[hyb];exact Zgy hborn y hy
 have Ztg:∀j b d,ρ j=some (b,d)->b=bi->j≠it->((s.h.at j).live=true->False):=by
  intro j b d hj hbb hne' hl;subst hbb;exact hne' (D.rel.inj it j b 0 d Zf9 hj (by rw[hit];rfl) hl).symm
 have hbne:bm≠bi:=fun z=>Ztg m bm 0 ZlQ z Zwe (by rw[hm];rfl);have ZTN:s.h.size=(s.h.put it .dead).size:=rfl
 have ZlT:∀{a:Act}{w:GY}{K:Act->GY->Prop}{Q:Exit->Act->GY->Prop}{v:N}{w1:GY},a.tmps.getD t undef=(V5 bi)->(Instr.next ((V5 bi)) false o.type).run X.P w=.ok v w1 ->
  K (a.put o.dst v) w1->(if Region.wanted o (yielded V a.tmps) then o.wpIn F 0 X.P a w K Q else(∀f,o.about X.P w a.eval=some f->F.fn f)/\K (a.put o.dst undef) w):=by
  intro a w K Q v w1 ht B hK;have hw:Region.wanted o (yielded V a.tmps)=true:=by unfold Region.wanted;rw[hgu]
  rw[if_pos hw];refine⟨fun f hab=>(by unfold Oper.about at hab;rw[hop]at hab;cases hab),?_⟩;have ZqG:o.semAt F.round a.eval=execOp a.eval o:=Oper.semAt_eq _ _ _ fun c hc=>by rw[hop]at hc;cases hc
  have he:a.eval (.tmp t)=(V5 bi):=ht
  have hx:(execOp a.eval o).run X.P w=.ok (.value v) w1:=by
   unfold execOp;rw[hop];simp[he,B]
  rw[ZqG,hx];exact hK
 have ZTJ:∀t,t∉T->t≠d:=fun t ht z=>by rw[z]at ht;exact ht hdT
 have Zs8:∀(a:Act)(w:GY),Inv ρ n {s with fr:=Y1 T s.fr,h:=s.h.put it .dead} a w->a.tmps.getD t undef=(V5 bi):=by
  intro a w G;have h0:VR ρ ((Y1 T s.fr).at t) (a.tmps.getD t undef):=G.fr.val t (by show Qv ((Y1 T s.fr).at t)=false;rw[Qr,if_neg htT,hfr];rfl);rw[Qr,if_neg htT,hfr]at h0;generalize a.tmps.getD t undef=y at h0;cases h0 with|ptr _ h1=>rw[Zf9]at h1;cases h1;rfl
 have ZDw:(∀x∈es,Yq x.born=false)->∀(a:Act)(w:GY),Inv ρ n {s with fr:=Y1 T s.fr,h:=s.h.put it .dead} a w->Stp L ρ s.h w0 ρ (s.h.put it .dead) w->a.tmps.getD t undef=(V5 bi) ->
  (Instr.next ((V5 bi)) false o.type).run X.P w=.ok UK w->LoopIn F 0 X.P (.seq (.region id V false) rest) (Qx L n ρ s.h w0 e s2) a w:=by
  intro hall a w G C ht B;have⟨hne,W⟩:=W hall;refine QJ (wpIn_seq (wpIn_region_list ?_));rw[hops];refine ZlT ht B ?_
  have hio:Inv ρ n {s with fr:=UO (Y1 T s.fr) o.dst UK,h:=s.h.put it .dead} (a.put o.dst UK) w:=by
   refine⟨G.rel,?_,?_⟩;.rw[hd];exact G.fr.set hdn (VR.Yk rfl)
   rw[hd];exact G.ds
  refine W hio ZA hF _ fun e3 a3 w3 hp=>?_;have hp2:=Qx.trans D.rel.lt C hp;have⟨ρ3,hx3,hi3,JV⟩:=hp2;cases hx3 with|normal=>exact(hne rfl).elim|exit id=>exact⟨ρ3,.exit id,hi3,JV⟩|goto id=>exact⟨ρ3,.goto id,hi3,JV⟩|ret=>exact⟨ρ3,.ret,hi3,JV⟩|panic hv=>exact⟨ρ3,.panic hv,hi3,JV⟩
 have ZLW:∀seen:GZ Nat,(∀b,seen.contains b=true->Yq b=false)->(leftOf es' seen).size=0->∀x∈es,Yq x.born=false:=by
  intro seen Zj6 h00 x hx;have⟨y,hy,hyb⟩:=hes.mem' hx;refine Zj6 _ ?_;cases hc:seen.contains x.born with|true=>rfl|false=>
    exfalso;have:y∈leftOf es' seen:=Array.mem_filter.2 ⟨Array.mem_toList_iff.1 hy,by rw[hyb,hc];rfl⟩;rw[Array.eq_empty_of_size_eq_zero h00]at this;simp at this
 have head:∀(k:Nat)(seen:GZ Nat)(last:Nat)(a:Act)(w:GY),(∀b,seen.contains b=true->Yq b=false)->(leftOf es' seen).size<=k->clock<=last->w.heap[bi]? =some (.mapIter (some bm) clock seen last)->w.heap[bm]? =some (.map es' clock) ->
  Inv ρ n {s with fr:=Y1 T s.fr,h:=s.h.put it .dead} a w ->
  Stp L ρ s.h w0 ρ (s.h.put it .dead) w->LoopIn F 0 X.P (.seq (.region id V false) rest) (Qx L n ρ s.h w0 e s2) a w:=by
  intro k;induction k with
  | zero=>
    intro seen last a w Zj6 hk hlast hblk Zhi G C;have ht:=Zs8 a w G;rcases ZkB (P:=X.P) o.type hblk Zhi hold (hlast) with⟨h00,B⟩|⟨I,he',_⟩
    .exact ZDw (ZLW seen Zj6 h00) a w G C ht B
    have:=Gc▸List.length_pos_of_mem he';omega
  | succ k ihk=>
    intro seen last a w Zj6 hk hlast hblk Zhi G C;have ht:=Zs8 a w G;rcases ZkB (P:=X.P) o.type hblk Zhi hold (hlast) with⟨h00,B⟩|⟨I,he',w1,hw1,S,B⟩
    .exact ZDw (ZLW seen Zj6 h00) a w G C ht B
    have hmem:=(mem_left he').1;have⟨x,hx,hkey,hkp,hbn,hval⟩:=hes.mem hmem;have⟨ex,s3,⟨ZN1,hwr,hpn⟩,hbody⟩:=ZlV x hx;have ZDQ:bi<w.heap.size:=(G.rel.dom _ _ _ Zf9).2;have ZTM:bm<w.heap.size:=(G.rel.dom _ _ _ ZlQ).2;obtain⟨w2,hw2⟩:∃w2,w2=w1.putObj bi (.mapIter (some bm) clock (seen.push I.born) clock):=⟨_,rfl⟩;rw[<-hw2]at B;have hsz2:w2.heap.size=w.heap.size:=by rw[hw2,World.putObj_size,hw1]
    have E:∀k,k≠bi->w2.heap[k]? =w.heap[k]?:=fun k hk=>by rw[hw2,World.putObj_heap_other hk,hw1]
    have ZDT:w2.heap[bi]? =some (.mapIter (some bm) clock (seen.push I.born) clock):=by rw[hw2];exact World.putObj_heap_same (by rw[hw1];exact ZDQ)
    have Zgd:Same w w2:=by rw[hw2];exact⟨S.os,S.tape,S.output⟩
    have hrel:Rel ρ (s.h.put it (.iter m clock clock (some x.born))) w2:=by
     refine Zll G.rel Zf9 Ztg E hsz2 ⟨rfl,bm,seen.push I.born,ZlQ,ZDT,fun z hz=>?_,fun z=>by cases z⟩;cases hz;rw[<-hbn];simp
    have hie:Inv ρ n {fr:=UO (Y1 T s.fr) o.dst (.tuple #[.bool true,x.key,x.val]),ds:=s.ds,h:=s.h.put it (.iter m clock clock (some x.born)),wr:=s.wr} (a.put o.dst (.tuple #[.bool true,I.key,I.val])) w2:=by
     refine⟨hrel,?_,?_⟩;.rw[hd];refine G.fr.set hdn (.tuple _ _ rfl fun j y y' p q=>?_);match j,p,q with|0,p,q=>simp at p q;subst p q;exact .bool true|1,p,q=>simp at p q;subst p q;rw[hkey];exact VR.Yk hkp|2,p,q=>simp at p q;subst p q;exact hval|j+3,p,q=>simp at p
     rw[hd];exact G.ds
    refine QJ (wpIn_seq (wpIn_region_list ?_));rw[hops];refine ZlT ht B<|hbody hie V7 hF _ fun e3 a3 w3 hp=>?_;have⟨ρ3,hx3,hi3,JV⟩:=hp;have⟨q1,q2⟩:=Zch hrel JV;have Zwf:∀b,b<w2.heap.size->w3.heap[b]? =w2.heap[b]?:=fun b hb=>JV.frame b hb fun i d hi' e _=>by have:=hrel.lt i _ e;simp at this hi';omega
    have hinv:Inv ρ n {s with fr:=Y1 T s.fr,h:=s.h.put it .dead} a3 w3:=by
     refine⟨?_,⟨hi3.fr.size,fun t r=>?_⟩,?_⟩
     .refine(Zdx (i:=it) q1).congr rfl fun i=>?_;rw[H.QC,H.QC];by_cases hii:i=it/\i<s.h.size;.rw[if_pos hii,if_pos (by simpa using hii)]
      rw[if_neg hii,if_neg (by simpa using hii),H.QC,if_neg hii]
     .change Qv ((Y1 T s.fr).at t)=false at r;show VR ρ ((Y1 T s.fr).at t) _;rw[Qr]at r ⊢;by_cases ZdL:t∈T;.rw[if_pos ZdL]at r;cases r
      rw[if_neg ZdL]at r ⊢;have h0:=G.fr.val t (by show Qv ((Y1 T s.fr).at t)=false;rw[Qr,if_neg ZdL];exact r);have h0:VR ρ ((Y1 T s.fr).at t) _:=h0;rw[Qr,if_neg ZdL]at h0;have h1:=hi3.fr.val t (by rw[hwr t ZdL];exact r);rw[hwr t ZdL]at h1;exact VR.back JV.ext h0 h1
     have h0:DsR ρ s.ds a.defers:=G.ds;have h1:=hi3.ds;rw[ZN1]at h1;exact DsR.back JV.ext h0 h1
    have hstp:Stp L ρ s.h w0 ρ (s.h.put it .dead) w3:=by
     refine⟨Ren.le_refl _,C.size,C.keep,C.own,C.live,JV.os.trans (Zgd.os.trans C.os),JV.tape.trans (Zgd.tape.trans C.tape),JV.output.trans (Zgd.output.trans C.output),
      KK C.X0 (by rw[<-hsz2];exact JV.X0),fun b hb hno=>?_,fun i b d p q=>by rw[p]at q;cases q⟩
     have hbb:b≠bi:=fun z=>by subst z;exact hno it 0 Zv8 Zf9 (by rw[hit];rfl)
     have:=C.X0;rw[Zwf b V6,E b hbb,C.frame b hb hno]
    rcases hpn with⟨rfl,hpf⟩|⟨rfl,hpt⟩
    .cases hx3;show LoopIn F 0 X.P _ _ a3 w3
     exact ihk (seen.push I.born) clock a3 w3 (fun b hb=>by
      rw[contains_push]at hb;rcases Bool.or_eq_true_iff.1 hb with z|z
      .exact Zj6 b z
      have:b=I.born:=by simpa using z
      rw[this,hbn];exact hpf) (by have:=left_shrinks es' seen I he';omega) V7 (by rw[Zwf bi V6];exact ZDT) (by rw[Zwf bm V6,E bm hbne];exact Zhi) hinv hstp
    have⟨he,ZYK⟩:=Zog ⟨x,hx,hpt⟩;cases hx3 with|panic hv3=>
      show Qx L n ρ s.h w0 e s2 _ a3 w3;rw[he,ZYK];have:=VR.XA hv hv3;subst this;exact⟨ρ,.panic (VR.Yk hv),hinv,hstp⟩
 have Zv9:Stp L ρ s.h w0 ρ (s.h.put it .dead) w0:=by
  have kk:=Uw (h:=s.h) (A:=.dead) Zv8 (by rw[hit];rfl);exact⟨Ren.le_refl _,K2 _,kk.keep,kk.own,kk.live,rfl,rfl,rfl,K2 _,fun _ _ _=>rfl,fun i b d e I=>by rw[e]at I;cases I⟩
 refine head _ #[] QW a0 w0 (fun b hb=>by simp at hb) V7 hck ZDS ZDO ⟨Zdx D.rel,⟨D.fr.size,fun t r=>?_⟩,D.ds⟩ Zv9;change Qv ((Y1 T s.fr).at t)=false at r;show VR ρ ((Y1 T s.fr).at t) _;rw[Qr]at r ⊢;by_cases ht:t∈T;.rw[if_pos ht]at r;cases r
 rw[if_neg ht]at r ⊢;exact D.fr.val t r
def Agr(T:U Nat)(fr h:Fr):Prop:=∀t v,T.contains t=false->fr.at t=v->h.at t=v
def Agr.at{T:U Nat}{fr l:Fr}(a:Agr T fr l){t:Nat}{v:N}(m:T.contains t=false)(h:fr.at t=v):l.at t=v:=a t v m h
def MFr(T:U Nat)(fr f:Fr):Prop:=∀t,t∉T->f.at t=fr.at t
def MFr.z{T:U Nat}{fr:Fr}:MFr T fr fr:=fun _ _=>rfl
def MFr.s{T:U Nat}{fr f:Fr}{i:Nat}{v:N}(p:T.contains i=true)(h:MFr T fr f):MFr T fr (Tr.set f i v):=fun t m=>by
 have l:t≠i:=fun z=>m (by subst z;rwa[GL]at p)
 have:=ZeB (fr:=f) (d:=some i) (v:=v) (t:=t);rw[show UO f (some i) v=Tr.set f i v from rfl]at this;rw[this,if_neg (fun z=>l (Oi0 z).symm)];exact h t m
structure Zxy(T:List Nat)(fr:Fr)(ds:List Deferred)(v:Value)(p:Bool)(e:XX)(s:Fs):Prop where
 ds:s.ds=ds
 fr:MFr T fr s.fr
 e:e=.normal/\p=false\/e=.panic v/\p=true
def Zxy.Yx{T:U Nat}{fr f:Fr}{ds:U V2}{v:N}{h:H}(k:MFr T fr f):Zxy T fr ds v false .normal ⟨f,ds,h,none⟩:=⟨rfl,k,.inl ⟨rfl,rfl⟩⟩
def Zxy.panic{T:U Nat}{fr f:Fr}{ds:U V2}{v:N}{h:H}(k:MFr T fr f):Zxy T fr ds v true (.panic v) ⟨f,ds,h,none⟩:=⟨rfl,k,.inr ⟨rfl,rfl⟩⟩
structure ZKD(Q:XX->Fs->Prop)(e:XX)(s:Fs):Prop where
 nn:e≠.normal
 k:Q e s
def ZKD.exit{Q:XX->Fs->Prop}{s:Fs}{id:Nat}(k:Q (.exit id) s):ZKD Q (.exit id) s:=⟨(fun z=>by cases z),k⟩
def ZKG{m l:Type}(kv:m->N)(vv:l->N)(h:H)(p:Nat)(x:m×l):Prop:=ZgG h ((V5 p))=some (.tuple #[kv x.1,vv x.2])
variable{κ ν:Type}{kv:κ->N}{vv:ν->N}{ll:U (κ×ν)}{bs:U Nat}
def ZsQ:∀{ll:U (κ×ν)}{bs:U Nat}{x:V0},x∈QS kv vv ll bs->∃(j:Nat) (y:κ×ν) (b:Nat),ll[j]? =some y/\bs[j]? =some b/\x=⟨kv y.1,vv y.2,b⟩:=by
 intro ll bs x h;have⟨j,hj⟩:=Gy.1 h;unfold QS at hj;rw[List.getElem?_zipWith]at hj;cases h1:ll[j]? with|none=>rw[h1]at hj;simp at hj|some y=>
   cases h2:bs[j]? with|none=>rw[h1,h2]at hj;simp at hj|some b=>rw[h1,h2]at hj;simp at hj;exact⟨j,y,b,h1,h2,hj.symm⟩
def ZHA{j:Nat}{y:κ×ν}{b:Nat}(h1:ll[j]? =some y)(h2:bs[j]? =some b):(⟨kv y.1,vv y.2,b⟩:V0)∈QS kv vv ll bs:=by refine Gy.2 ⟨j,?_⟩;unfold QS;rw[List.getElem?_zipWith,h1,h2]
def Zj4{b:Nat}:∀{ll:U (κ×ν)}{bs:U Nat},b∉bs->Zcv b (QS kv vv ll bs)=true
 | [],_,_=>by unfold QS;simp[Zcv]
 | _::_,[],_=>by unfold QS;simp[Zcv]
 | x::ll,b'::bs,h=>by
   have ih:=Zj4 (ll:=ll) (bs:=bs) (b:=b) (fun z=>h (by simp[z]));unfold QS at ih ⊢;rw[List.zipWith_cons_cons];unfold Zcv;have:Nat.beq b' b=false:=by rw[Gm];intro q;exact h (by simp[Nb0 q])
   rw[this];exact ih
def ZlH{l:Nat}:∀{ll:U (κ×ν)}{bs:U Nat},bs.Nodup->(∀b∈bs,b<l)->JA l (QS kv vv ll bs)=true
 | [],_,_,_=>by unfold QS;simp[JA]
 | _::_,[],_,_=>by unfold QS;simp[JA]
 | x::ll,b::bs,hn,hl=>by
   rw[List.nodup_cons]at hn;have ih:=ZlH (ll:=ll) (bs:=bs) hn.2 (fun b m=>hl b (by simp[m]));have h:Zcv b (QS kv vv ll bs)=true:=Zj4 (ll:=ll) hn.1;unfold QS at ih h ⊢;rw[List.zipWith_cons_cons];unfold JA;rw[h,ih];have:Nat.blt b l=true:=by rw[G5];exact hl b Vd
   rw[this];rfl
def Zo0:∀{ll:U (κ×ν)}{bs:U Nat}{j:Nat}{y:κ×ν}{b:Nat},bs.Nodup->ll[j]? =some y->bs[j]? =some b->Znb b (QS kv vv ll bs)=some ⟨kv y.1,vv y.2,b⟩
 | [],_,_,_,_,_,h,_=>by simp at h
 | _::_,[],_,_,_,_,_,h=>by simp at h
 | x::ll,b'::bs,j,y,b,hn,h1,h2=>by
   rw[List.nodup_cons]at hn;unfold QS;rw[List.zipWith_cons_cons];unfold Znb;cases j with
   | zero=>
     simp at h1 h2;subst h1 h2;rw[Nat.beq_refl];rfl
   | succ j=>
     simp at h1 h2
     have:Nat.beq b' b=false:=by
      rw[Gm];intro q;have:=Nb0 q;subst this;exact hn.1 (Gy.2 ⟨j,h2⟩)
     rw[this];exact Zo0 hn.2 h1 h2
section
variable{T0:Nat->Prop}{fr:Fr}{ds:U V2}{ty:J}{p:String}{af:GZ Edge}{g:O (Nat×Z)}{d:Nat}
def WO.rng{Q:XX->Fs->Prop}{t A y:J}{x:GV}{i:Nat}(C:Yh V ⟨some d,.range t x,ty,p,af,g⟩ fr)(D:Nat.blt d n=true)(F:Sp L T0 h0 G h)(hu:X.P.underlying t=some (.map A y))(B:YM fr x=some (.map (some i)))(s:MapAt kv vv h (some i) ll)
 (k:∀r b bs m,Sp L T0 h0 (ob L b (.iter i m m none)::G) r->r.at i=.map (QS kv vv ll bs) m->bs.length=ll.length/\bs.Nodup/\(∀x∈bs,x<m)->WO X n L rd V l ⟨Tr.set fr d ((V5 b)),ds,r,none⟩ Q):
 WO X n L rd V (⟨some d,.range t x,ty,p,af,g⟩::l) ⟨fr,ds,h,none⟩ Q:=by
 rcases s.mem with⟨q,_⟩|⟨S,bs,m,q,h1,h2,K,I⟩
 .cases q
 cases q;refine WO.v (v:=J7 h) (E:=.new (.iter i m m none)) (h1:=h.push (.iter i m m none)) C D ?_ (Zrw h rfl) (k (h.push (.iter i m m none)) h.size bs m (Zf4 rfl F) ?_ ⟨h2,K,I⟩);.show(match YM fr x with|some x=>vE (Znv X.P h t x)|none=>none)=_;rw[B];unfold Znv;simp[hu,h1];rfl
 rw[ZbE (X4 h1 rfl),h1]
def ZFR{x:GV}{l:Nat}{y:κ×ν}(m:YM fr x=some ((V5 l)))(he:ZKG kv vv h l y):Qd X h (YM fr) ⟨some d,.entry x,ty,p,af,g⟩=some (.val (.tuple #[kv y.1,vv y.2]),.none):=by show(match YM fr x with|some l=>vN (ZgG h l)|none=>none)=_;rw[m];dsimp only;rw[show ZgG h ((V5 l))=_ from he];rfl
end
end
section
variable{n:Nat}{rd:O Nat}{V:GZ Oper}{l:U Oper}{fr:Fr}{ds:U V2}{h1 h2:H}{Ga Gb:U (Ast L)}
inductive FzS(L:Nat):H->H->Prop
 | refl (h:H):FzS L h h
 | step {h h':H} {i:Nat} {cs:List Value} {z:Nat} (hw:L<=i) (hr:h.at i=.row cs true z) (k:FzS L (h.put i (.row cs false 0)) h'):FzS L h h'
def Ko.fzs{t:Type}{e:WG t}{a:O Addr}{c:Nat}{xs:U t}(p:Ko e L L h a c xs):∃r,FzS L h r/\Up L (Um a) h r/\Sl e L r a c xs:=by
 rcases p.mem with⟨rfl,rfl,rfl⟩|⟨i,o,cs,rfl,h1,h2,A,y,x⟩
 .exact⟨h,.refl h,⟨K2 _,fun _ _ _=>rfl,fun i l=>by have⟨o,l⟩:=l;cases l⟩,Sl.nil⟩
 have m:(h.at i).own=true:=by rw[h2];rfl
 have hu:Up L (Um (some ⟨i,o,none⟩)) h (h.put i (.row cs false 0)):=
  ⟨K2 _,fun j _ hn=>XE (fun q=>hn ⟨o,by rw[q]⟩) _,fun j l=>by have⟨o',l⟩:=l;cases l;exact⟨h1,m⟩⟩
 exact⟨_,.step h1 h2 (.refl _),hu,⟨p.max,p.cap,p.nl,.inr ⟨i,o,cs,false,0,rfl,YD (X4 h2 rfl) _,.inr rfl,x.mono (hu.fz V7)⟩⟩⟩
end
end Go.Z9
end
end
namespace Go.Lf
end Go.Lf
noncomputable section
namespace Go.Z9
open Go.Lf
section
variable{X:Ctx}{n L:Nat}{rd:O Nat}{V:GZ Oper}{l:U Oper}{rest:Code}
section
variable{G Gr:U (Ast L)}{h h0:H}{T0:Nat->Prop}{fr:Fr}{ds:U V2}{κ ν:Type}{kv:κ->N}{vv:ν->N}{ll:U (κ×ν)}{d:Nat}
structure RK(it:Nat)(h h2:H):Prop where
 it_:∃a b c d,h.at it=.iter a b c d
 at_:∀i,i≠it->h2.at i=h.at i
def ZoG.rk{r p:Type}{kv:r->N}{vv:p->N}{t:Nat}{h h2:H}{m:Nat}{l:U (r×p)}(s:ZoG kv vv h.size h (some m) l)(k:RK t h h2):ZoG kv vv h.size h2 (some m) l:=
 ⟨s.at_.keep fun i e=>(by
   cases e;refine k.at_ m fun z=>?_
   have⟨a,b,c,d,e1⟩:=k.it_;rcases s.at_.mem with⟨q,_⟩|⟨j,bs,x,q,h1,_⟩
   .cases q
   cases q;rw[z,e1]at h1;cases h1),s.low⟩
end
end
section
variable{X:Ctx}{n L:Nat}{rd:O Nat}{V:GZ Oper}{ol:U Oper}{fr:Fr}{ds:U V2}{h h0:H}{ty:J}{p:String}{af:GZ Edge}{g:O (Nat×Z)}{T:Nat->Prop}{G Gr:U (Ast L)}{d l df:Nat}{LO:YN}{ps:GZ Tmp}{YK bd:Code}
def YZ{l β:Type}{body:l->(l->O β)->O β}(C:l->β->Prop)(m:∀next:l->O β,(∀x r,next x=some r->C x r)->∀x r,body x next=some r->C x r):∀F x r,loop F body x=some r->C x r:=by intro F;induction F with|zero=>intro x r h;cases h|succ F ih=>intro x r h;exact m _ ih x r h
def dne(c:Code):YN->YN
 | .loop _ _ fr n h YK m l=>.loop .done (some c) fr n h YK m l
 | A=>A
def lst(b:Z)(c:Code)(A:YN):YN:=bif b then dne c A else A
inductive Zzs:XX->Code->Prop
 | ret:Zzs .ret .ret
 | exit (id:Nat):Zzs (.exit id) (.exit id)
structure BdS(n lo l:Nat)(fr:Fr)(ps:Array Tmp)(YK bd:Code)(df:Nat)(R:Bool->H->Prop)(e:XX)(s:Fs):Prop where
 out:s.h.at l=.loop .busy none fr n ps YK bd df/\
  ((e=.normal/\∀h',(lo<=l->Up lo (fun i=>i=l) s.h h')->h'.at l=.loop .ready none fr n ps YK bd df->R true h')\/
   (∃c,Zzs e c/\∀h',(lo<=l->Up lo (fun i=>i=l) s.h h')->h'.at l=.loop .done (some c) fr n ps YK bd df->R false h'))
structure AsS(X:Ctx)(n L lo l:Nat)(fr:Fr)(ps:Array Tmp)(YK bd:Code)(df:Nat)(R:Bool->H->Prop)(e:XX)(s:Fs):Prop where
 out:e=.normal/\s.h.at l=.loop .ready none fr n ps YK bd df/\∀h1,(lo<=l->Up lo (fun i=>i=l) s.h h1)->h1.at l=.loop .busy none fr n ps YK bd df->WC X n L (some l) bd ⟨s.fr,s.ds,h1,s.wr⟩ (BdS n lo l fr ps YK bd df R)
def Zve.mkS{l:Nat}{args:U N}{fr fr1:Fr}{m:GZ Tmp}{YK p:Code}{t:Nat}{R:Z->H->Prop}(lo:Nat)(B:h.at l=.loop .ready none fr n m YK p t)(hw:L<=l)(q:Nat.beq args.length m.toList.length=true)(F:Qz (m.toList.zip args) n fr=some fr1)
 (k:WC X n L (some l) YK ⟨fr1,[],h,none⟩ (AsS X n L lo l fr m YK p t R)):Zve X l args.toArray L h R:=by
 obtain⟨e1,s1,⟨rfl,h1,k1⟩,V⟩:=k;have S:(s1.h.at l).own=true:=by rw[h1];rfl
 have y:=X4 h1 rfl;obtain⟨P,s2,⟨h2,k2⟩,T⟩:=k1 (s1.h.put l (.loop .busy none fr n m YK p t)) (fun q=>Up.put q S) (YD y _);have Q:(s2.h.at l).own=true:=by rw[h2];rfl
 have x:=X4 h2 rfl
 have D:∃b A,R b (s2.h.put l A)/\Jp l P s2=some (.fin (.ret (.bool b)) (s2.h.put l A)):=by
  rcases k2 with⟨rfl,k2⟩|⟨c,hx,k2⟩
  ·refine⟨true,_,k2 _ (fun q=>Up.put q Q) (YD x _),?_⟩;unfold Jp;rw[h2]
  refine⟨false,_,k2 _ (fun q=>Up.put q Q) (YD x _),?_⟩;unfold Jp;rw[h2];cases hx<;>rfl
 obtain⟨b,A,hR,K⟩:=D;refine⟨b,s2.h.put l A,hR,?_⟩
 classical
 let ih:Jz->O Xr:=fun j=>if j=.code YK n L (some l) ⟨fr1,[],h,none⟩ then some (.code .normal s1) else JF (.code p n L (some l) {s1 with h:=s1.h.put l (.loop .busy none fr n m YK p t)}) (.code P s2) j
 have HI:∀j r,ih j=some r->YW X j r:=by
  intro j r e;dsimp only[ih]at e;split at e
  ·rename_i I;cases e;rw[I];exact V
  exact XH (X:=X) T j r e
 refine KO (C:=cfg X fun _=>false) (ih:=ih) HI ?_;unfold ZcO;rw[B];have G:Nat.beq args.toArray.toList.length m.toList.length=true:=q;dsimp only;rw[Nm0 hw,G];simp[Bool.and_self,Cq1];have E:Qz (m.toList.zip args.toArray.toList) n fr=some fr1:=F;rw[E];dsimp only;have i1:ih (.code YK n L (some l) {fr:=fr1,ds:=[],h:=h})=some (.code .normal s1):=by dsimp only[ih];rw[if_pos rfl]
 rw[i1];show Ke ih l p n L .normal s1=_;unfold Ke;dsimp only;rw[h1];dsimp only
 have W:ih (.code p n L (some l) {s1 with h:=s1.h.put l (.loop .busy none fr n m YK p t)})=some (.code P s2):=by
  dsimp only[ih];split
  ·rename_i I;exfalso;injection I with _ _ _ _ F
   have:({s1 with h:=s1.h.put l (.loop .busy none fr n m YK p t)}:Fs).h.at l=h.at l:=by rw[F]
   dsimp only at this;rw[YD y,B]at this;cases this
  exact XI _ _
 rw[W];exact K
def WO.ZXr{Q:XX->Fs->Prop}{A:GV}{xs:GZ GV}{ts:GZ J}{vs:U N}{x:Nat}{B r:Fr}{m t:Code}(K:Yh V ⟨some d,.call {callee:=.value A,args:=xs,argTypes:=ts},ty,p,af,g⟩ fr)(S:Nat.blt d n=true)(P:YM fr A=some (.func (.yield l) #[] #[]))(E:evs (YM fr) xs.toList=some vs)
 (W:Sp L T h0 G h) (pk:Pk G (ob L l LO) Gr) (y:LO=.loop .ready none B x ps m t df) (C:Nat.beq vs.length ps.toList.length=true) (F:Qz (ps.toList.zip vs) x B=some r)
 (k:WC X x L (some l) m ⟨r,[],h,none⟩ (AsS X x L L l B ps m t df (fun b D=>WO X n L rd V ol ⟨Tr.set fr d (.bool b),ds,D,none⟩ Q))):
 WO X n L rd V (⟨some d,.call {callee:=.value A,args:=xs,argTypes:=ts},ty,p,af,g⟩::ol) ⟨fr,ds,h,none⟩ Q:=by
 have⟨h1,h2,h3⟩:=W.get pk;have q:=h1.trans y;exact WO.yld K S P E q (Nb0 C) (Zve.mkS (lo:=L) q h2 C F k) fun b D I=>I
def AsS.sp{r:Fr}{R:Z->H->Prop}(m:LO=.loop .ready none fr n ps YK bd df)(p:Sp L T h0 G h)(pk:Pk G (ob L l LO) Gr)(k:∀h1,Sp L T h0 (ob L l (bsy LO)::Gr) h1->WC X n L (some l) bd ⟨r,ds,h1,none⟩ (BdS n L l fr ps YK bd df R)):AsS X n L L l fr ps YK bd df R .normal ⟨r,ds,h,none⟩:=by have⟨h1,h2,h3⟩:=p.get pk;refine⟨⟨rfl,h1.trans m,fun t u e=>k t ?_⟩⟩;exact p.one pk (u h2) (fun _ q=>q) ⟨by rw[e,m];rfl,h2,by rw[m];rfl⟩ fun _ q=>.inl q
def BdS.sp{Xk:Fr}{R:Z->H->Prop}(hLO:LO=.loop .ready none fr n ps YK bd df)(hS:Sp L T h0 G h)(pk:Pk G (ob L l (bsy LO)) Gr)(k:∀h1,Sp L T h0 (ob L l LO::Gr) h1->R true h1):BdS n L l fr ps YK bd df R .normal ⟨Xk,ds,h,none⟩:=by have⟨h1,h2,h3⟩:=hS.get pk;refine⟨⟨h1.trans (by rw[hLO];rfl),.inl ⟨rfl,fun h' u e=>k h' ?_⟩⟩⟩;exact hS.one pk (u h2) (fun _ q=>q) ⟨by rw[e,hLO],h2,by rw[hLO];rfl⟩ fun _ q=>.inl q
def BdS.stop{x:Fr}{R:Z->H->Prop}{e:XX}{c:Code}(r:Zzs e c)(m:LO=.loop .ready none fr n ps YK bd df)(p:Sp L T h0 G h)(pk:Pk G (ob L l (bsy LO)) Gr)(k:∀h1,Sp L T h0 (ob L l (lst true c LO)::Gr) h1->R false h1):BdS n L l fr ps YK bd df R e ⟨x,ds,h,none⟩:=by have⟨h1,h2,h3⟩:=p.get pk;refine⟨⟨h1.trans (by rw[m];rfl),.inr ⟨c,r,fun t u e=>k t ?_⟩⟩⟩;exact p.one pk (u h2) (fun _ q=>q) ⟨by rw[e,m];rfl,h2,by rw[m];rfl⟩ fun _ q=>.inl q
structure RgS(X:Ctx)(L l:Nat)(fr:Fr)(n:Nat)(ps:Array Tmp)(YK bd:Code)(df:Nat)(ds:List Deferred)(Q:XX->Fs->Prop)(h:H):Prop where
 low:L<=l
 k:(h.at l=.loop .ready none fr n ps YK bd df/\∀h',Up L (fun i=>i=l) h h'->Q .normal ⟨fr,⟨.collected df,#[]⟩::ds,h',none⟩)\/
  (∃c,h.at l=.loop .done (some c) fr n ps YK bd df/\∀h',Up L (fun i=>i=l) h h'->WC X n L none c ⟨fr,⟨.collected df,#[]⟩::ds,h',none⟩ Q)
def RgS.sp{Q:XX->Fs->Prop}(q:LO=.loop .ready none fr n ps YK bd df)(r:Sp L T h0 G h)(pk:Pk G (ob L l LO) Gr)(k:∀p,Sp L T h0 Gr p->Q .normal ⟨fr,⟨.collected df,#[]⟩::ds,p,none⟩):RgS X L l fr n ps YK bd df ds Q h:=by have⟨h1,h2,h3⟩:=r.get pk;refine⟨h2,.inl ⟨h1.trans q,fun p u=>k p ?_⟩⟩;exact Sp.step (Ga:=[ob L l LO]) (Gb:=[]) (r.perm pk.perm) u (fun i e=>⟨_,Gf.2 rfl,e⟩) Z0.nil fun i ⟨A,m,f⟩=>by simp at m
def RgS.stop{Q:XX->Fs->Prop}{c:Code}(q:LO=.loop .ready none fr n ps YK bd df)(r:Sp L T h0 G h)(pk:Pk G (ob L l (lst true c LO)) Gr)(k:∀p,Sp L T h0 Gr p->WC X n L none c ⟨fr,⟨.collected df,#[]⟩::ds,p,none⟩ Q):RgS X L l fr n ps YK bd df ds Q h:=by have⟨h1,h2,h3⟩:=r.get pk;refine⟨h2,.inr ⟨c,h1.trans (by rw[q];rfl),fun p u=>k p ?_⟩⟩;exact Sp.step (Ga:=[ob L l (lst true c LO)]) (Gb:=[]) (r.perm pk.perm) u (fun i e=>⟨_,Gf.2 rfl,e⟩) Z0.nil fun i ⟨A,m,f⟩=>by simp at m
def WC.ZM3{Q:XX->Fs->Prop}{x:GV}{f:GX}{first cap:U N}(hS:Sp L T h0 G h)(K:YM fr x=some (.func (.func f) first.toArray cap.toArray))(E:(X.fns.get f).isSome=true)
 (k:∀P l F V,V=YN.loop .ready none fr n ps YK bd F->Sp L T h0 (ob L l V::ob L F .deferred::G) P->WR X f (first++([Value.func (.yield l) #[] #[]]++cap)).toArray L P (fun _ h2=>RgS X L l fr n ps YK bd F ds Q h2)):
 WC X n L none (.rangeFunc x ps YK bd) ⟨fr,ds,h,none⟩ Q:=by
 have s1:Sp L T h0 (ob L h.size .deferred::G) (h.push .deferred):=Zf4 rfl hS
 have s2:Sp L T h0 (ob L (h.size+1) (.loop .ready none fr n ps YK bd h.size)::ob L h.size .deferred::G) ((h.push .deferred).push (.loop .ready none fr n ps YK bd h.size)):=by
  have:=Zf4 (A:=.loop .ready none fr n ps YK bd h.size) rfl s1
  rwa[H.size_push]at this
 obtain⟨fn,E⟩:=GJ.1 E;obtain⟨e,q,⟨v,rfl,y⟩,I⟩:=k _ _ _ _ rfl s2
 have t:WB (cfg X fun _=>false).X ((h.push .deferred).push (.loop .ready none fr n ps YK bd h.size)) (.func (.func f) first.toArray cap.toArray) [Value.func (.yield (h.size+1)) #[] #[]]=some (.enter f (first++([Value.func (.yield (h.size+1)) #[] #[]]++cap)).toArray,.none):=by
  unfold WB;have:(cfg X fun _=>false).X.fns.get f=some fn:=E;dsimp only;rw[this];simp[Q4]
 rcases y.k with⟨m,B⟩|⟨c,m,B⟩
 ·refine⟨.normal,_,B (q.put (h.size+1) (.loop .exhausted none fr n ps YK bd h.size)) (Up.put y.low (by rw[m];rfl)),?_⟩;refine XB.2 (Ju (C:=cfg X fun _=>false) (ih:=JF (.call f _ L _) (.fin (.ret v) q)) (XH I) ?_);show Qm (cfg X fun _=>false) _ x n L none (h.size+1) ⟨fr,⟨.collected h.size,#[]⟩::ds,(h.push .deferred).push (.loop .ready none fr n ps YK bd h.size),none⟩=_;unfold Qm;dsimp only;rw[K];dsimp only;rw[t];dsimp only;unfold J8;rw[XI];dsimp only;rw[m]
  rfl
 obtain⟨S,s2,hq,D⟩:=B (q.put (h.size+1) (.loop .exhausted (some c) fr n ps YK bd h.size)) (Up.put y.low (by rw[m];rfl));refine⟨S,s2,hq,?_⟩
 classical
 let ih:Jz->O Xr:=fun j=>if j=.code c n L none ⟨fr,⟨.collected h.size,#[]⟩::ds,q.put (h.size+1) (.loop .exhausted (some c) fr n ps YK bd h.size),none⟩ then some (.code S s2) else JF (.call f (first++([Value.func (.yield (h.size+1)) #[] #[]]++cap)).toArray L ((h.push .deferred).push (.loop .ready none fr n ps YK bd h.size))) (.fin (.ret v) q) j
 have HI:∀j r,ih j=some r->YW X j r:=by
  intro j r e;dsimp only[ih]at e;split at e
  ·rename_i p;cases e;rw[p];exact D
  exact XH (X:=X) I j r e
 refine XB.2 (Ju (C:=cfg X fun _=>false) (ih:=ih) HI ?_);show Qm (cfg X fun _=>false) _ x n L none (h.size+1) ⟨fr,⟨.collected h.size,#[]⟩::ds,(h.push .deferred).push (.loop .ready none fr n ps YK bd h.size),none⟩=_;unfold Qm;dsimp only;rw[K];dsimp only;rw[t];dsimp only;unfold J8
 have W:ih (.call f (first++([Value.func (.yield (h.size+1)) #[] #[]]++cap)).toArray L ((h.push .deferred).push (.loop .ready none fr n ps YK bd h.size)))=some (.fin (.ret v) q):=by
  dsimp only[ih];split
  ·rename_i p;cases p
  exact XI _ _
 rw[W];dsimp only;rw[m];show ih (.code c n L none _)=_;dsimp only[ih];rw[if_pos rfl]
structure JnP{α β:Type}(I':α->Fs->Prop)(j:α->Option β)(r:β)(Q:XX->Fs->Prop)(e:XX)(s:Fs):Prop where
 out:(e=.normal/\∃x,j x=some r/\I' x s)\/(e≠.normal/\Q e s)
def JnP.Yx{l β:Type}{m:l->Fs->Prop}{j:l->O β}{r:β}{Q:XX->Fs->Prop}{s:Fs}(x:l)(h:j x=some r)(i:m x s):JnP m j r Q .normal s:=⟨.inl ⟨rfl,x,h,i⟩⟩
def JnP.pass{l β:Type}{m:l->Fs->Prop}{j:l->O β}{r:β}{Q:XX->Fs->Prop}{e:XX}{s:Fs}(h:e≠.normal)(q:Q e s):JnP m j r Q e s:=⟨.inr ⟨h,q⟩⟩
def WC.jnP{Q:XX->Fs->Prop}{c:Code}{s:Fs}{h β:Type}{r:β}(l:h->Fs->Prop)(j:h->O β)(k:∀x s',j x=some r->l x s'->Q .normal s')(m:WC X n L rd c s (JnP l j r Q)):WC X n L rd c s Q:=
 m.mono fun e s' ⟨q⟩=>by
   rcases q with⟨q,x,h1,h2⟩|⟨_,q⟩
   .rw[q];exact k x s' h1 h2
   exact q
def Zfo{l m:Type}[DecidableEq l]{kv:l->N}{vv:m->N}{q r:J}{i:Nat}{ll:U (l×m)}{t:J}{x y z:GV}{k:l}{v:m}(D:Sp L T h0 G h)(pk:Pk G (mp L kv vv (some i) ll) Gr)(K:Ziw X.P q kv)(hu:X.P.underlying t=some (.map q r))(C:YM fr x=some (.map (some i)))(B:YM fr y=some (kv k))(A:YM fr z=some (vv v)):
 HU X L ⟨none,.insert t x y z,ty,p,af,g⟩ fr h (fun j=>j=i) (fun E=>Sp L T h0 (mp L kv vv (some i) (Xh ll k v)::Gr) E):=
 Zfn (ty:=ty) (p:=p) (af:=af) (g:=g) D pk K hu C B A
variable{sf:ST}{m:Nat}
def WX.Wl{Q:Fr->H->Prop}{o:Oper}{c:Z}(_:Zh V o fr c)(h1:c=true->WX X n L rd V sf m h (o::ol) fr Q)(h2:c=false->WX X n L rd V sf m h (o::ol) fr Q):WX X n L rd V sf m h (o::ol) fr Q:=by
 cases c;.exact h2 rfl
 exact h1 rfl
def WX.hv0{Q:Fr->H->Prop}{y:Op}{T:Nat->Prop}{K:N->H->Prop}(P:Yh V ⟨some d,y,ty,p,af,g⟩ fr)(B:Nat.blt d n=true)(s:HV X L ⟨some d,y,ty,p,af,g⟩ fr h T K)(G:∀x,T x->False)
 (k:∀v I,K v I->WX X n L rd V sf (m+1) I ol (Tr.set fr d v) Q) (t:Yu ⟨some d,y,ty,p,af,g⟩=false) (F:okM V sf m ⟨some d,y,ty,p,af,g⟩=true):
 WX X n L rd V sf m h (⟨some d,y,ty,p,af,g⟩::ol) fr Q:=by
 have⟨v,E,h1,ha,hE,hT,hz,hk⟩:=s;refine⟨fun D=>?_⟩;by_cases hw:L<=h.size
 .have A:=ZbS (L:=L) (rd:=rd) P (.inl ha) hE
  exact WE.cons (T:=fun x=>E.tgt=some x) (xs0:=[]) (h2:=h1) (v:=v) [] [] none ⟨fun _=>⟨h1,rfl,A.1,A.2.1 hw⟩,A.2.2 hw,fun S e=>(by cases e;rwa[G5]at B),fun q=>Bool.noConfusion (t.symm.trans q),fun _ _ _ z=>by simp at z⟩ (fun _ z=>by simp at z) (fun x l=>(G x (hT x l)).elim)
   (fun x l=>(G x (hT x l)).elim) (fun t q r=>.inl (WU F t q r)) (fun x j C z=>by cases z) ((k v h1 hk).out fun q r x l=>J1 (D q r x l) hz)
 exact WE.cons (T:=fun _=>False) (xs0:=[]) (h2:=h1) (v:=v) [] [] none ⟨fun z=>absurd z hw,fun _ z=>z.elim,fun S e=>(by cases e;rwa[G5]at B),fun q=>Bool.noConfusion (t.symm.trans q),fun _ z=>z.elim⟩ (fun _ z=>by simp at z) (fun x l=>l.elim)
  (fun x l=>l.elim) (fun t q r=>.inl (WU F t q r)) (fun x j C z=>by cases z) ((k v h1 hk).out fun q r x l=>J1 (D q r x l) hz)
def Sp.djs{r:Nat->Prop}{G Ga Gr:U (Ast L)}{B:Ast L}(s:Sp L r h0 G h)(p:Sel G (B::Ga) Gr):∀x,JO Ga x->¬ B.fp x:=fun x ⟨A,l,q⟩ m=>
 (List.pairwise_cons.1 (s.ZcE p).dis).1 A l x m q
inductive Lk(V:Array Oper)(m:Nat)(R:Nat->Prop):List (Nat×(Nat->Prop))->Prop
 | n:Lk V m R []
 | o {q:Nat×(Nat->Prop)} {r:List (Nat×(Nat->Prop))} (h:comp (Jh V.toList 0 []) q.1 m=true):Lk V m R r->Lk V m R (q::r)
 | d {q:Nat×(Nat->Prop)} {r:List (Nat×(Nat->Prop))} (h:∀x,q.2 x->¬ R x):Lk V m R r->Lk V m R (q::r)
def Lk.get{R:Nat->Prop}{r:U (Nat×(Nat->Prop))}(h:Lk V m R r):∀q∈r,Cmp V q.1 m\/∀x,q.2 x->¬ R x:=by
 induction h with
 | n=>intro q l;simp at l
 | o h1 _ ih=>intro q l;rcases Ks.1 l with z|z
              .subst z;exact .inl h1
              exact ih q z
 | d h1 _ ih=>intro q l;rcases Ks.1 l with z|z
              .subst z;exact .inr h1
              exact ih q z
def WX.wrM{Q:Fr->H->Prop}{F:Nat->Prop}{G:U (Ast L)}{A:Op}{v:N}(R:Nat->Prop)(hS:Sp L F h0 G h)(K:Yh V ⟨some d,A,ty,p,af,g⟩ fr)(P:Nat.blt d n=true)(W:∀D:H,D.size=h.size->(∀x,R x->D.at x=h.at x)->Qd X D (YM fr) ⟨some d,A,ty,p,af,g⟩=some (.val v,.none))
 (k:∀B,B.size=h.size->Sp L F h0 G B->WX X n L rd V ⟨(m,fun x=>¬ R x)::sf.s,sf.m,sf.p⟩ (m+1) B ol (Tr.set fr d v) Q) (E:Yu ⟨some d,A,ty,p,af,g⟩=false) (hM:Lk V m R sf.m):
 WX X n L rd V sf m h (⟨some d,A,ty,p,af,g⟩::ol) fr Q:=by
 have r:(Jf (Qp h R) h (mask (Qp h R) h)).size=h.size:=by rw[Qb,ZX]
 have t:∀x,¬ R x->VV h (Jf (Qp h R) h (mask (Qp h R) h)) (Qp h R) x:=fun x l=>by
  rcases Gl x h.size with z|z
  .exact .inl ⟨z,ZcA.2 ⟨z,l⟩⟩
  exact .inr (by rw[r];exact z)
 refine⟨fun S=>WE.cons (T:=fun _=>False) (xs0:=Qp h R) (h2:=Jf (Qp h R) h (mask (Qp h R) h)) (v:=v) [(m,fun x=>¬ R x)] [] none ?_ (fun q y=>?_) (fun _ z=>z.elim) (fun _ z=>z.elim) (fun E q y=>(hM.get q y).imp id fun z x l=>t x (z x l)) (fun x j C z=>by cases z) ((k _ r (hS.up (Up.hide L _ h))).out fun q y x l=>by rw[r];exact S q y x l)⟩
 .have:=ZbS (L:=L) (rd:=rd) K (.inl (W _ (ZX _ _) fun x l=>ZDR l)) (h1:=mask (Qp h R) h) rfl;have I:(fun x:Nat=>Eff.tgt Eff.none=some x)=fun _=>False:=by funext x;simp[Eff.tgt]
  rw[I]at this;exact⟨fun hw=>⟨_,rfl,this.1,this.2.1 (by rw[ZX];exact hw)⟩,fun _ z=>z.elim,fun d' e=>(by cases e;rwa[G5]at P),fun q=>Bool.noConfusion (E.symm.trans q),fun _ z=>z.elim⟩
 rw[Gf.1 y];exact⟨rfl,fun x l=>t x l⟩
def Zx4{x:Nat}(h:Um none x):False:=by have⟨o,e⟩:=h;cases e
def WX.Ql{Q:Fr->H->Prop}{l:Op}{c:Z}(q:Zh V ⟨some d,l,ty,p,af,g⟩ fr c)(t:c=false)(r:Nat.blt d n=true)(k:WX X n L rd V sf (m+1) h ol (Tr.set fr d undef) Q)(x:okM V sf m ⟨some d,l,ty,p,af,g⟩=true):WX X n L rd V sf m h (⟨some d,l,ty,p,af,g⟩::ol) fr Q:=WX.off (q.off t) r k x
def ZJW{β:Type}{b:Z}{x:O β}{r:β}(h:(bif b then none else x)=some r):b=false/\x=some r:=by
 cases b;.exact⟨rfl,h⟩
 cases h
def Zw6(b:Z):b=true\/b=false:=by cases b<;>simp
end
section
variable{X:Ctx}{n L wm':Nat}{rd:O Nat}{V:GZ Oper}{ol:U Oper}{m:Nat}{sf:ST}{fr:Fr}{h h0:H}{ty:J}{p:String}{af:GZ Edge}{g:O (Nat×Z)}{T:Nat->Prop}{G Gr:U (Ast L)}{d:Nat}
section
variable{α:Type}{e:WG α}{t el:J}{x:GV}{a:O Addr}{nn c:Nat}{xs zs:U α}{a1:Int}
def ZMV{lo:GV}{D:IntKind}(K:Sl e wm' h a c xs)(G:c % 2=0)(hn:nn=xs.length)(hu:X.P.underlying t=some (.slice el))(F:YX X.P el=some e.sz)(E:YM fr x=some (.slice a nn c))
 (y:YM fr lo=some (.int D a1)) (S:slL xs a1 xs.length=some zs):
 HE X ⟨some d,.slice t x (some lo) none none,ty,p,af,g⟩ fr h (fun v=>∃Q c',v=.slice Q zs.length c'/\ZGj e a c xs Q c' zs):=by
 obtain⟨l,k,rfl,L,m,T,rfl⟩:=Zsp S;have L:k=xs.length:=V6;subst L hn;have B:((xs.take xs.length).drop l).length=xs.length-l:=by rw[GC,Gt];omega
 have e1:∀q,obN (some (.int D (l:Int))) q=some l:=fun q=>rfl;have e2:obN none xs.length=some xs.length:=rfl;have C:=K.cap;rcases K.nl with⟨rfl,rfl⟩|⟨rfl,rfl⟩|⟨i,o,rfl⟩
 .have r:xs=[]:=List.length_eq_zero_iff.1 V6;subst r;have A:l=0:=by simpa using m
  subst A;refine⟨V3,ZjH E (Zbe y) rfl rfl ?_,none,0,rfl,Zp9 rfl⟩
  have:aslice X.P h t (V3) (some (.int D ((0:Nat):Int))) none none=some (V3):=by
   unfold aslice;simp[hu,F];rfl
  exact this
 .have r:xs=[]:=List.length_eq_zero_iff.1 V6;subst r;have A:l=0:=by simpa using m
  subst A;refine⟨.slice (some ⟨0,0,some 0⟩) 0 0,ZjH E (Zbe y) rfl rfl ?_,_,0,rfl,Zp9 rfl⟩
  have:aslice X.P h t (.slice (some ⟨0,0,some 0⟩) 0 0) (some (.int D ((0:Nat):Int))) none none=some (.slice (some ⟨0,0,some 0⟩) 0 0):=by
   unfold aslice;simp[hu,F];rfl
  exact this
 have W:Nat.beq (c % 2) 0=true:=by rw[G];rfl
 have V:(Nat.ble l xs.length&&Nat.ble xs.length (c / 2))=true:=by rw[Nm0 m,Nm0 C];rfl
 refine⟨.slice (some ⟨i,bif Nat.beq (c / 2) l then o else o+l*e.sz,none⟩) (xs.length-l) (2*(c / 2-l)),ZjH E (Zbe y) rfl rfl ?_,_,_,by rw[B],Zqa m V7 ?_⟩;.unfold aslice;simp[hu,F,e1,e2,V,W,Cq1]
 cases I:Nat.beq (c / 2) l with|true=>right;have:=Nb0 I;exact⟨rfl,this,by omega⟩|false=>left;exact⟨rfl,by omega⟩
end
end
end Go.Z9
end
namespace Go.Lf
open Go
def ZjU(s:Y)(i:Int):O Int:=
 match(if 0<=i then s[i.toNat]? else none) with|some b=>some b.toNat|none=>none
def ZB8(xs:U Int):O Y:=
 match xs with|[]=>none|_::_=>some ⟨(xs.map fun n=>UInt8.ofNat n.toNat).toArray⟩
def Zla(a b:Y):O Y:=if((a.size+b.size:Nat):Int)>9223372036854775807 then none else some (a++b)
def Zk9(a b:Y):Z:=Op.bytesLess a.data.toList b.data.toList
end Go.Lf
