/- Part 9. -/
import GoSem.Core.View
import Derived.Test.YtbnepjakjmnadaaGreatFp8
set_option linter.all false
set_option maxHeartbeats 2000000
section
namespace Go.Lf
def loop{α β:Type}:Nat->(α->(α->O β)->O β)->α->O β
 | 0,_,_=>none
 | F+1,body,a=>body a (loop F body)
def Ya{α β:Type}(F:Nat)(body:α->(α->O β)->O β)(a:α):loop (F+1) body a=body a (loop F body):=rfl
def YA{α:Type}(l:U α)(k:Int):O α:=bif decide (0<=k) then l[k.toNat]? else none
def Zco{α:Type}(l:U α)(k:Nat):YA l (k:Int)=l[k]?:=by simp[YA]
def Za4{α:Type}{l:U α}{k:Int}{x:α}(h:YA l k=some x):(k.toNat:Int)=k/\k.toNat<l.length/\l[k.toNat]? =some x:=by
 unfold YA at h;by_cases hk:0<=k
 ·rw[decide_eq_true hk,Cq1]at h;exact⟨by omega,(Li0 h).1,h⟩
 ·rw[decide_eq_false hk,Cq0]at h;cases h
def Znh{α:Type}(l:U α)(k:Int)(x:α):U α:=l.set k.toNat x
def XO(n:Int):Int:=Go.IntKind.i64.wrap n
def ZiL{n:Int}(h1:-9223372036854775808<=n)(h2:n<=9223372036854775807):XO n=n:=by
 unfold XO Go.IntKind.wrap;have e1:(2 ^ IntKind.i64.bits:Int)=18446744073709551616:=by decide
 have e2:(2 ^ (IntKind.i64.bits-1):Int)=9223372036854775808:=by decide
 have e3:IntKind.i64.signed=true:=rfl;rw[e1,e2,e3];dsimp only;split
 ·rename_i h;simp at h;omega
 ·rename_i h;simp at h;omega
def Zv6(a b:Int):O Int:=bif b==0 then none else some (XO (a.tdiv b))
def Zv3(a b:Int):O Int:=bif b==0 then none else some (a.tmod b)
def Zv5{a b c:Int}(h:Zv6 a b=some c):b≠0/\c=XO (a.tdiv b):=by
 unfold Zv6 at h;cases e:b==0 with
 | true=>rw[e]at h;cases h
 | false=>rw[e]at h;cases h;exact⟨by simpa using e,rfl⟩
def Zv2{a b c:Int}(h:Zv3 a b=some c):b≠0/\c=a.tmod b:=by
 unfold Zv3 at h;cases e:b==0 with
 | true=>rw[e]at h;cases h
 | false=>rw[e]at h;cases h;exact⟨by simpa using e,rfl⟩
def slL{α:Type}(xs:U α)(lo hi:Int):O (U α):=bif decide (0<=lo)&&(decide (lo<=hi)&&decide (hi<=xs.length)) then some ((xs.take hi.toNat).drop lo.toNat) else none
def gd{α:Type}(g:Z)(m:O α)(d:α):O α:=bif g then m else some d
def Ziq{α:Type}(m:O α)(d:α):gd true m d=m:=rfl
def Zz6{α:Type}(m:O α)(d:α):gd false m d=some d:=rfl
def app{α:Type}(KN:Nat)(xs ys:U α):O (U α):=bif Nat.ble ((2*(xs.length+ys.length)+1000)*KN) (2 ^ 47) then some (xs++ys) else none
def ZkM{α:Type}{KN:Nat}{xs ys:U α}(h:(2*(xs.length+ys.length)+1000)*KN<=2 ^ 47):app KN xs ys=some (xs++ys):=by
 unfold app;rw[Nm0 h];rfl
def ZBs{α:Type}{KN:Nat}{xs ys zs:U α}(h:app KN xs ys=some zs):zs=xs++ys/\(2*(xs.length+ys.length)+1000)*KN<=2 ^ 47:=by
 unfold app at h;cases hb:Nat.ble ((2*(xs.length+ys.length)+1000)*KN) (2 ^ 47)<;>rw[hb]at h
 ·cases h
 ·cases h;exact⟨rfl,Nl0 hb⟩
def bS{α β:Type}{m:O α}{f:α->O β}{r:β}(h:m.bind f=some r):∃x,m=some x/\f x=some r:=Option.bind_eq_some_iff.1 h
def QC{α β:Type}{g:Z}{m:O α}{d:α}{f:α->O β}{r:β}(h:(gd g m d).bind f=some r):∃x,(g=true->m=some x)/\f x=some r:=by
 obtain⟨x,h1,h2⟩:=bS h;refine⟨x,fun hg=>?_,h2⟩;subst hg;exact h1
def XQ{α:Type}{c:Z}{a b r:α}(hc:c=true)(h:(bif c then a else b)=r):a=r:=by subst hc;exact h
def XR{α:Type}{c:Z}{a b r:α}(hc:c=false)(h:(bif c then a else b)=r):b=r:=by subst hc;exact h
def Z8{κ ν:Type}[DecidableEq κ]:U (κ×ν)->κ->O (Nat×ν)
 | [],_=>none
 | p::l,k=>if p.1=k then some (0,p.2) else(Z8 l k).map fun q=>(q.1+1,q.2)
def Zq{κ ν:Type}[DecidableEq κ](l:U (κ×ν))(k:κ):O ν:=(Z8 l k).map (·.2)
def Yk{κ ν:Type}[DecidableEq κ](l:U (κ×ν))(k:κ)(x:ν):U (κ×ν):=match Z8 l k with
 | some q=>l.modify q.1 fun p=>(p.1,x)
 | none=>l++[(k,x)]
def Zer{κ ν:Type}[DecidableEq κ](l:U (κ×ν))(k:κ):U (κ×ν):=match Z8 l k with
 | some q=>l.eraseIdx q.1
 | none=>l
def ZdL{κ ν:Type}[DecidableEq κ](l:U (κ×ν))(k:κ)(z:ν):O ν:=some ((Zq l k).getD z)
def Zyr{κ ν:Type}[DecidableEq κ](l:U (κ×ν))(k:κ)(z:ν):O (ν×Z):=some ((Zq l k).getD z,(Zq l k).isSome)
section
variable{κ ν:Type}[DecidableEq κ]
theorem K6{l:U (κ×ν)}{k:κ}{q:Nat×ν}(h:Z8 l k=some q):l[q.1]? =some (k,q.2):=by
 induction l generalizing q with
 | nil=>cases h
 | cons p l ih=>
   unfold Z8 at h;split at h
   ·rename_i e;cases h;simp[<-e]
   ·cases e:Z8 l k with
    | none=>rw[e]at h;cases h
    | some q'=>rw[e]at h;cases h;simpa using ih e
theorem Zeq{l:U (κ×ν)}{k:κ}:Z8 l k=none↔∀p∈l,p.1≠k:=by
 induction l with
 | nil=>simp[Z8]
 | cons p l ih=>
   unfold Z8;split
   ·rename_i e;simp[e]
   ·rename_i e;simp[e,ih]
theorem Zbm{l l2:U (κ×ν)}{k:κ}(h:Z8 l k=none):Z8 (l++l2) k=(Z8 l2 k).map fun q=>(q.1+l.length,q.2):=by
 induction l with
 | nil=>cases e:Z8 l2 k<;>simp[e]
 | cons p l ih=>
   rw[Zeq]at h;have h1:p.1≠k:=h p (by simp);have h2:Z8 l k=none:=Zeq.2 fun q hq=>h q (by simp[hq])
   rw[List.cons_append,Z8,if_neg h1,ih h2];cases e:Z8 l2 k with
   | none=>rfl
   | some q=>simp[GU]
theorem Zav{l l2:U (κ×ν)}{k:κ}{q:Nat×ν}(h:Z8 l k=some q):Z8 (l++l2) k=some q:=by
 induction l generalizing q with
 | nil=>cases h
 | cons p l ih=>
   rw[List.cons_append];unfold Z8 at h ⊢;split
   ·rename_i e;rw[if_pos e]at h;exact h
   ·rename_i e;rw[if_neg e]at h;cases e2:Z8 l k with
    | none=>rw[e2]at h;cases h
    | some q'=>rw[e2]at h;rw[ih e2];exact h
theorem ZgH{l l2:U (κ×ν)}{k:κ}(h:Zq l k=none):Zq (l++l2) k=Zq l2 k:=by
 unfold Zq at h ⊢
 have h1:Z8 l k=none:=by
  cases e:Z8 l k with
  | none=>rfl
  | some q=>rw[e]at h;cases h
 rw[Zbm h1];cases Z8 l2 k<;>rfl
theorem ZgG{l l2:U (κ×ν)}{k:κ}{v:ν}(h:Zq l k=some v):Zq (l++l2) k=some v:=by
 unfold Zq at h ⊢;cases e:Z8 l k with
 | none=>rw[e]at h;cases h
 | some q=>rw[e]at h;rw[Zav e];exact h
theorem ZnC{l:U (κ×ν)}{k k':κ}{q:Nat×ν}{x:ν}(h:Z8 l k=some q):(Z8 (l.modify q.1 fun p=>(p.1,x)) k').map (·.2)=if k'=k then some x else(Z8 l k').map (·.2):=by
 induction l generalizing q with
 | nil=>cases h
 | cons p l ih=>
   unfold Z8 at h;split at h
   ·rename_i e;cases h;simp only[List.modify_zero_cons];unfold Z8;dsimp only;rw[e];by_cases hk:k=k'
    ·subst hk;simp
    ·rw[if_neg hk,if_neg hk,if_neg (fun z=>hk z.symm)]
   ·rename_i e;cases e2:Z8 l k with
    | none=>rw[e2]at h;cases h
    | some q'=>
      rw[e2]at h;cases h;have:=ih e2;simp only[List.modify_succ_cons];unfold Z8;by_cases hp:p.1=k'
      ·rw[if_pos hp,if_pos hp];have:¬ k'=k:=fun z=>e (hp.trans z)
       rw[if_neg this]
      ·rw[if_neg hp,if_neg hp,Option.map_map,Option.map_map];exact this
theorem Wi(l:U (κ×ν))(k k':κ)(x:ν):Zq (Yk l k x) k'=if k'=k then some x else Zq l k':=by
 unfold Yk Zq;cases e:Z8 l k with
 | some q=>exact ZnC e
 | none=>
   dsimp only;by_cases hk:k'=k
   ·subst hk;rw[if_pos rfl,Zbm e];simp[Z8]
   ·rw[if_neg hk];cases e2:Z8 l k' with
    | some q=>rw[Zav e2]
    | none=>
      rw[Zbm e2];have:Z8 [(k,x)] k'=none:=by simp[Z8];exact fun z=>hk z.symm
      rw[this];rfl
end
inductive PR(β:Type) where
 | ok (b:β)
 | ZX (k:Int)
def Jp{α β:Type}(x:PR α)(p:Int->O β)(k:α->O β):O β:=match x with
 | .ok y=>k y
 | .ZX e=>p e
def opt{α β:Type}(x:O α)(p:O β)(k:α->O β):O β:=match x with
 | some y=>k y
 | none=>p
def Zl3{κ ν:Type}(b:κ->ν->O Z):U (κ×ν)->O Z
 | []=>some false
 | x::r=>(b x.1 x.2).bind fun p=>(Zl3 b r).bind fun q=>some (p||q)
def Zjo{κ ν:Type}{b:κ->ν->O Z}:∀{l:U (κ×ν)}{q:Z},Zl3 b l=some q->(∀x∈l,∃p,b x.1 x.2=some p)/\(q=true↔∃x∈l,b x.1 x.2=some true)
 | [],q,h=>by cases h;simp
 | x::r,q,h=>by
   obtain⟨p,h1,h⟩:=bS h;obtain⟨q',h2,h⟩:=bS h;cases h;obtain⟨i1,i2⟩:=Zjo h2;refine⟨fun y hy=>?_,?_⟩
   ·rcases Kd.1 hy with z|z
    ·subst z;exact⟨p,h1⟩
    ·exact i1 y z
   ·rw[GL,i2]
    constructor
    ·rintro(z|⟨y,hy,hz⟩)
     ·exact⟨x,by simp,by rw[h1,z]⟩
     ·exact⟨y,by simp[hy],hz⟩
    ·rintro⟨y,hy,hz⟩;rcases Kd.1 hy with z|z
     ·subst z;rw[h1]at hz;left;exact Oi0 hz
     ·exact .inr ⟨y,z,hz⟩
end Go.Lf
end
section
noncomputable section
namespace Go.ZF
open Go.Lf
section
structure Fz(wm:Nat)(h h':H):Prop where
 size:h.size<=h'.size
 keep:∀i cs own z,h.at i=.row cs own z->(i<wm\/own=false)->h'.at i=.row cs own z
 low:∀i,i<wm->i<h.size->h'.at i=h.at i
def Fz.refl(wm:Nat)(h:H):Fz wm h h:=⟨K1 _,fun _ _ _ _ e _=>e,fun _ _ _=>rfl⟩
def Fz.trans{wm:Nat}{a b c:H}(x:Fz wm a b)(y:Fz wm b c):Fz wm a c:=
 ⟨KB x.size y.size,fun i cs own z e s=>y.keep i cs own z (x.keep i cs own z e s) s,fun i h1 h2=>(y.low i h1 (G0 h2 x.size)).trans (x.low i h1 h2)⟩
structure Up(lo:Nat)(t:Nat->Prop)(h h':H):Prop where
 size:h.size<=h'.size
 keep:∀i,i<h.size->¬ t i->h'.at i=h.at i
 own:∀i,t i->lo<=i/\(h.at i).own=true
def Up.fz{lo wm:Nat}{t:Nat->Prop}{h h':H}(u:Up lo t h h')(hw:wm<=lo):Fz wm h h':=by
 refine⟨u.size,fun i cs own z e s=>?_,fun i h1 h2=>u.keep i h2 fun ht=>by have:=(u.own i ht).1;omega⟩;rw[u.keep i (YH e rfl) ?_,e];intro ht;obtain⟨h1,h2⟩:=u.own i ht;rw[e]at h2;rcases s with s|s
 ·omega
 ·subst s;cases h2
def Up.ZC5{h h':H}(lo:Nat)(g:Grow h h'):Up lo (fun _=>False) h h':=⟨g.size,fun i hi _=>g.keep i hi,fun _ e=>e.elim⟩
def Up.push(lo:Nat)(h:H)(A:YD):Up lo (fun _=>False) h (h.push A):=Up.ZC5 lo ((Grow.refl h).push A)
def Up.put{lo:Nat}{h:H}{b:Nat}{A:YD}(hl:lo<=b)(ho:(h.at b).own=true):Up lo (fun i=>i=b) h (h.put b A):=
 ⟨K1 _,fun i _ hn=>Xg hn A,fun i e=>by subst e;exact⟨hl,ho⟩⟩
def At(h:H)(b o:Nat)(vs:U N):Prop:=∃cs own z,h.at b=.row cs own z/\(cs.drop o).take vs.length=vs/\o+vs.length<=cs.length
def Stb(wm:Nat)(h:H)(b:Nat):Prop:=b<wm\/(h.at b).own=false
def At.box{h:H}{b:Nat}{vs:U N}{own:Z}{z:Nat}(hb:h.at b=.row vs own z):At h b 0 vs:=⟨vs,own,z,hb,by simp,by omega⟩
def At.fz{wm:Nat}{h h':H}{b o:Nat}{vs:U N}(f:Fz wm h h')(s:Stb wm h b)(a:At h b o vs):At h' b o vs:=by
 obtain⟨cs,own,z,h1,h2,h3⟩:=a;exact⟨cs,own,z,f.keep _ _ _ _ h1 (s.imp id fun e=>by rw[h1]at e;exact e),h2,h3⟩
def At.cell{h:H}{b o j:Nat}{vs:U N}{v:N}(a:At h b o vs)(hv:vs[j]? =some v):∃cs own z,h.at b=.row cs own z/\cs[o+j]? =some v:=by
 obtain⟨cs,own,z,h1,h2,h3⟩:=a;refine⟨cs,own,z,h1,?_⟩;have hj:=(Li0 hv).1;rw[<-h2,GD hj,GB]at hv;exact hv
def At.part{h:H}{b o j n:Nat}{vs ws:U N}(a:At h b o vs)(hj:j+n<=vs.length)(hw:(vs.drop j).take n=ws):∃cs own z,h.at b=.row cs own z/\o+j+n<=cs.length/\(cs.drop (o+j)).take n=ws:=by
 obtain⟨cs,own,z,h1,h2,h3⟩:=a;refine⟨cs,own,z,h1,by omega,?_⟩;rw[<-hw,<-h2,List.drop_take,List.take_take,List.drop_drop];have e:min n (vs.length-j)=n:=Vg
 rw[e]
structure UD(α:Type) where
 sz:Nat
 pos:0<sz
 Par:Type
 dflt:Par
 sh:Par->α->List Value
 len:∀p x,(sh p x).length=sz
 one:∀p x,(sh p x).all Value.oneCell'=true
 F:Nat->H->Par->α->Prop
 mono:∀{wm h h' p x},Fz wm h h'->F wm h p x->F wm h' p x
 up:∀{wm KP h p x},wm<=KP->F wm h p x->F KP h p x
def ZoT(a:O Addr)(c:Nat):Prop:=(a=none/\c=0)\/(a=some ⟨0,0,some 0⟩/\c=0)\/∃i o,a=some ⟨i,o,none⟩
structure QR{α:Type}(e:UD α)(wm:Nat)(h:H)(cs:List Value)(o:Nat)(xs:List α):Prop where
 len:o+xs.length*e.sz<=cs.length
 get:∀k x,xs[k]? =some x->∃q,(cs.drop (o+k*e.sz)).take e.sz=e.sh q x/\e.F wm h q x
def QR.mono{α:Type}{e:UD α}{wm:Nat}{h h':H}{cs:U N}{o:Nat}{xs:U α}(f:Fz wm h h')(a:QR e wm h cs o xs):QR e wm h' cs o xs:=
 ⟨a.len,fun k x hk=>let⟨q,h1,h2⟩:=a.get k x hk;⟨q,h1,e.mono f h2⟩⟩
def QR.up{α:Type}{e:UD α}{wm KP:Nat}{h:H}{cs:U N}{o:Nat}{xs:U α}(f:wm<=KP)(a:QR e wm h cs o xs):QR e KP h cs o xs:=
 ⟨a.len,fun k x hk=>let⟨q,h1,h2⟩:=a.get k x hk;⟨q,h1,e.up f h2⟩⟩
structure Src{α:Type}(e:UD α)(wm:Nat)(h:H)(a:Option Addr)(c:Nat)(xs:List α):Prop where
 max:xs.length<=9223372036854775807
 cap:xs.length<=c / 2
 nl:ZoT a c
 mem:xs=[]\/∃i o cs own z,a=some ⟨i,o,none⟩/\h.at i=.row cs own z/\QR e wm h cs o xs
structure Sl{α:Type}(e:UD α)(wm:Nat)(h:H)(a:Option Addr)(c:Nat)(xs:List α):Prop where
 max:xs.length<=9223372036854775807
 cap:xs.length<=c / 2
 nl:ZoT a c
 mem:xs=[]\/∃i o cs own z,a=some ⟨i,o,none⟩/\h.at i=.row cs own z/\(i<wm\/own=false)/\QR e wm h cs o xs
structure Wx{α:Type}(e:UD α)(wm lo:Nat)(h:H)(a:Option Addr)(c:Nat)(xs:List α):Prop where
 max:xs.length<=9223372036854775807
 mem:(a=none/\c=0/\xs=[])\/∃i o cs,a=some ⟨i,o,none⟩/\lo<=i/\h.at i=.row cs true e.sz/\xs.length<=c / 2/\o+(c / 2)*e.sz<=cs.length/\QR e wm h cs o xs
variable{α:Type}{e:UD α}{wm KP lo:Nat}{h h':H}{a:O Addr}{c:Nat}{xs:U α}
def Sl.src(s:Sl e wm h a c xs):Src e wm h a c xs:=⟨s.max,s.cap,s.nl,s.mem.imp id fun⟨i,o,cs,own,z,h1,h2,_,h4⟩=>⟨i,o,cs,own,z,h1,h2,h4⟩⟩
def Wx.nl(s:Wx e wm lo h a c xs):ZoT a c:=by
 rcases s.mem with⟨h1,h2,_⟩|⟨i,o,cs,h1,_⟩
 ·exact .inl ⟨h1,h2⟩
 ·exact .inr (.inr ⟨i,o,h1⟩)
def Wx.cap(s:Wx e wm lo h a c xs):xs.length<=c / 2:=by
 rcases s.mem with⟨_,_,h3⟩|⟨i,o,cs,h1,_,h3,h4,_⟩
 ·subst h3;exact Gv _
 ·exact h4
def Wx.src(s:Wx e wm lo h a c xs):Src e wm h a c xs:=⟨s.max,s.cap,s.nl,by
 rcases s.mem with⟨_,_,h3⟩|⟨i,o,cs,h1,_,h3,_,_,h6⟩
 ·exact .inl h3
 ·exact .inr ⟨i,o,cs,true,_,h1,h3,h6⟩⟩
def Sl.mono(f:Fz wm h h')(s:Sl e wm h a c xs):Sl e wm h' a c xs:=⟨s.max,s.cap,s.nl,s.mem.imp id fun⟨i,o,cs,own,z,h1,h2,h3,h4⟩=>⟨i,o,cs,own,z,h1,f.keep _ _ _ _ h2 h3,h3,h4.mono f⟩⟩
def Sl.up(f:wm<=KP)(s:Sl e wm h a c xs):Sl e KP h a c xs:=⟨s.max,s.cap,s.nl,s.mem.imp id fun⟨i,o,cs,own,z,h1,h2,h3,h4⟩=>⟨i,o,cs,own,z,h1,h2,h3.imp (fun x=>by omega) id,h4.up f⟩⟩
def Src.sl(s:Src e wm h a c xs)(hw:wm<=h.size):Sl e h.size h a c xs:=⟨s.max,s.cap,s.nl,s.mem.imp id fun⟨i,o,cs,own,z,h1,h2,h4⟩=>⟨i,o,cs,own,z,h1,h2,.inl (YH h2 rfl),h4.up hw⟩⟩
def Sl.nil:Sl e wm h none 0 ([]:U α):=⟨by simp,by simp,.inl ⟨rfl,rfl⟩,.inl rfl⟩
def Wx.nil:Wx e wm lo h none 0 ([]:U α):=⟨by simp,.inl ⟨rfl,rfl,rfl⟩⟩
def JU(a:O Addr)(i:Nat):Prop:=∃o,a=some ⟨i,o,none⟩
def Src.at_{k:Int}{x:α}(s:Src e wm h a c xs)(hk:YA xs k=some x):∃i o q,a=some ⟨i,o,none⟩/\At h i (o+k.toNat*e.sz) (e.sh q x)/\e.F wm h q x:=by
 obtain⟨h1,h2,h3⟩:=Za4 hk;rcases s.mem with z|⟨i,o,cs,own,z,q1,q2,q3⟩
 ·subst z;simp at h2
 ·obtain⟨q,g1,g2⟩:=q3.get _ _ h3;refine⟨i,o,q,q1,⟨cs,own,z,q2,by rw[e.len];exact g1,?_⟩,g2⟩;rw[e.len];have:=q3.len;have:(k.toNat+1)*e.sz<=xs.length*e.sz:=Gz _ h2;rw[V3]at this;omega
def Sl.at_{k:Int}{x:α}(s:Sl e wm h a c xs)(hk:YA xs k=some x):∃i o q,a=some ⟨i,o,none⟩/\At h i (o+k.toNat*e.sz) (e.sh q x)/\Stb wm h i/\e.F wm h q x:=by
 obtain⟨h1,h2,h3⟩:=Za4 hk;rcases s.mem with z|⟨i,o,cs,own,z,q1,q2,q4,q3⟩
 ·subst z;simp at h2
 ·obtain⟨q,g1,g2⟩:=q3.get _ _ h3;refine⟨i,o,q,q1,⟨cs,own,z,q2,by rw[e.len];exact g1,?_⟩,q4.imp id (fun z=>by rw[q2];exact z),g2⟩;rw[e.len];have:=q3.len;have:(k.toNat+1)*e.sz<=xs.length*e.sz:=Gz _ h2;rw[V3]at this;omega
def Zi7(k:IntKind):UD Int where
 sz:=1
 pos:=Nat.one_pos
 Par:=Unit
 dflt:=()
 sh:=fun _ x=>[.int k x]
 len:=fun _ _=>rfl
 one:=fun _ _=>rfl
 F:=fun _ _ _ _=>True
 mono:=fun _ x=>x
 up:=fun _ x=>x
def ZW:UD Y where
 sz:=1
 pos:=Nat.one_pos
 Par:=Unit
 dflt:=()
 sh:=fun _ x=>[.string x]
 len:=fun _ _=>rfl
 one:=fun _ _=>rfl
 F:=fun _ _ _ _=>True
 mono:=fun _ x=>x
 up:=fun _ x=>x
def Yy{α:Type}(e:UD α):UD (U α) where
 sz:=1
 pos:=Nat.one_pos
 Par:=O Addr×Nat
 dflt:=(none,0)
 sh:=fun p x=>[.slice p.1 x.length p.2]
 len:=fun _ _=>rfl
 one:=fun _ _=>rfl
 F:=fun wm h p x=>Sl e wm h p.1 p.2 x
 mono:=fun f x=>x.mono f
 up:=fun f x=>x.up f
end
section
variable{X:Ctx}{n wm:Nat}{rd:O Nat}{s:Fs}{Q:XX->Fs->Prop}
def ZR6(fr:Fr)(d:Nat)(v:N):Fr.at (Tr.set fr d v) d=v:=by rw[at_set,if_pos rfl]
def Zi{fr:Fr}{d t:Nat}{v w:N}(hn:Nat.beq t d=false)(k:Fr.at fr t=v):Fr.at (Tr.set fr d w) t=v:=by
 rw[at_set,if_neg (fun e=>by rw[e,V4]at hn;cases hn)];exact k
def Yb{fr:Fr}{a b t:Nat}{v x y:N}(hn:(Nat.beq t a||Nat.beq t b)=false)(k:Fr.at fr t=v):Fr.at (Tr.set (Tr.set fr b y) a x) t=v:=by
 rw[JT]at hn;exact Zi hn.1 (Zi hn.2 k)
def YC{fr:Fr}{a b c d t:Nat}{v x y z w:N}(hn:((Nat.beq t a||Nat.beq t b)||(Nat.beq t c||Nat.beq t d))=false)(k:Fr.at fr t=v):Fr.at (Tr.set (Tr.set (Tr.set (Tr.set fr d w) c z) b y) a x) t=v:=by
 rw[JT]at hn;exact Yb hn.1 (Yb hn.2 k)
def Xb{fr:Fr}{a b c d a' b' c' d' t:Nat}{v x y z w x' y' z' w':N}(hn:(((Nat.beq t a||Nat.beq t b)||(Nat.beq t c||Nat.beq t d))||((Nat.beq t a'||Nat.beq t b')||(Nat.beq t c'||Nat.beq t d')))=false)(k:Fr.at fr t=v):
 Fr.at (Tr.set (Tr.set (Tr.set (Tr.set (Tr.set (Tr.set (Tr.set (Tr.set fr d' w') c' z') b' y') a' x') d w) c z) b y) a x) t=v:=by
 rw[JT]at hn;exact YC hn.1 (YC hn.2 k)
def fh{fr:Fr}{d:Nat}{v:N}:Fr.at (Tr.set fr d v) d=v:=ZR6 _ _ _
def Zm{fr:Fr}{t:Nat}{v:N}(h:fr.at t=v)(ha:Xt v=false):Yo fr (.tmp t)=some v:=by rw[ZiC,h,ha];rfl
def JK{fr:Fr}{t:Nat}{c:Z}{v:N}(h:fr.at t=cond c v undef)(ha:Xt v=false):c=true->Yo fr (.tmp t)=some v:=fun hc=>by
 rw[ZiC,h,hc,Cq1,ha];rfl
def U6{fr:Fr}{v:N}(h:plain v=true):Yo fr (.const v)=some v:=by rw[Zw8,h];rfl
def ZAY{fr:Fr}{t:Nat}{c b:Z}(h:fr.at t=cond c (.bool b) undef):Yo fr (.tmp t)=some (cond c (.bool b) undef):=by
 rw[ZiC,h];cases c<;>rfl
def ZN9{fr:Fr}{t:Nat}{a c b:Z}(h:fr.at t=cond (a&&c) (.bool b) undef)(ha:a=true):Yo fr (.tmp t)=some (cond c (.bool b) undef):=by
 subst ha;rw[ZiC,h];cases c<;>rfl
def ZOV{α β:Type}(I:α->Fs->Prop)(j:α->O β)(r:β)(Q:XX->Fs->Prop):XX->Fs->Prop:=fun e s=>
 match e with
 | .normal=>∃a,j a=some r/\I a s
 | e=>Q e s
structure Xh{α β:Type}(I:α->Fs->Prop)(j:α->Option β)(r:β)(Q:XX->Fs->Prop)(e:XX)(s:Fs):Prop where
 out:ZOV I j r Q e s
def Xh.YG{α β:Type}{I:α->Fs->Prop}{j:α->O β}{r:β}(a:α)(h:j a=some r)(i:I a s):Xh I j r Q .normal s:=⟨a,h,i⟩
def Xh.ret{α β:Type}{I:α->Fs->Prop}{j:α->O β}{r:β}(h:Q .ret s):Xh I j r Q .ret s:=⟨h⟩
def Xh.panic{α β:Type}{I:α->Fs->Prop}{j:α->O β}{r:β}{v:N}(h:Q (.panic v) s):Xh I j r Q (.panic v) s:=⟨h⟩
def WC.Zei{α β:Type}{a b:Code}{r:β}(I:α->Fs->Prop)(j:α->O β)(k:∀x s',j x=some r->I x s'->WC X n wm rd b s' Q)(h:WC X n wm rd a s (Xh I j r Q)):WC X n wm rd (.seq a b) s Q:=by
 refine WC.seq (h.mono fun e s' q=>⟨?_⟩);have q:=q.out;cases e with
 | normal=>obtain⟨x,h1,h2⟩:=q;exact k x s' h1 h2
 | _=>exact q
def WC.Uu{c:V6}{a b:Code}{t:Z}{fr:Fr}{ds:U Vc}{h:H}(hc:Yo fr c=some (.bool t))(h1:t=true->WC X n wm rd a ⟨fr,ds,h,none⟩ Q)(h2:t=false->WC X n wm rd b ⟨fr,ds,h,none⟩ Q):WC X n wm rd (.cond c a b) ⟨fr,ds,h,none⟩ Q:=WC.cond (s:=⟨fr,ds,h,none⟩) hc h1 h2
def WC.Zbz{c:V6}{a b:Code}{t:Z}{fr:Fr}{ds:U Vc}{h:H}(hc:Yo fr c=some (.bool t))(ht:t=true)(k:WC X n wm rd a ⟨fr,ds,h,none⟩ Q):WC X n wm rd (.cond c a b) ⟨fr,ds,h,none⟩ Q:=WC.ZmA (s:=⟨fr,ds,h,none⟩) hc ht k
def WC.Zaf{c:V6}{a b:Code}{t:Z}{fr:Fr}{ds:U Vc}{h:H}(hc:Yo fr c=some (.bool t))(ht:t=false)(k:WC X n wm rd b ⟨fr,ds,h,none⟩ Q):WC X n wm rd (.cond c a b) ⟨fr,ds,h,none⟩ Q:=WC.Zf3 (s:=⟨fr,ds,h,none⟩) hc ht k
def WL.lift{α β:Type}{c:Code}{body:α->(α->O β)->O β}{r:β}{F:Nat}{a:α}(hL:loop F body a=some r)(I:α->Fs->Prop)(init:I a s)
 (round:∀(next:α->O β) a s,(∀a' s',next a'=some r->I a' s'->WL X n wm rd c s' Q)->body a next=some r->I a s->WC X n wm rd c s (ZM X n wm rd c Q)):WL X n wm rd c s Q:=by
 induction F generalizing a s with
 | zero=>cases hL
 | succ F ih=>exact WL.step (round _ _ _ (fun a' s' h1 h2=>ih h1 h2) hL init)
section
variable{h:H}{ev:V6->O N}{d:O Tmp}{ty:J}{p:String}{af:Va Edge}{g:O (Nat×Z)}
def ZY{x:V6}{t:J}{b o oo j:Nat}{vs:U N}{v:N}(ht:Yw X.P t=some false)(hx:ev x=some (.pointer (some ⟨b,oo,none⟩)))(ha:At h b o vs)(ho:oo=o+j)(hv:vs[j]? =some v):
 Xm X h ev ⟨d,.load t x,ty,p,af,g⟩=some (.val v,.none):=by
 obtain⟨cs,own,z,h1,h2⟩:=ha.cell hv;subst ho;exact ZBp ht hx h1 h2
def YN{x:V6}{t:J}{b o oo j sz:Nat}{vs ws:U N}(ht:Yw X.P t=some true)(hs:Yu X.P t=some sz)(hx:ev x=some (.pointer (some ⟨b,oo,none⟩)))(ha:At h b o vs)(ho:oo=o+j)(hj:Nat.ble (j+sz) vs.length=true)(hv:(vs.drop j).take sz=ws):
 Xm X h ev ⟨d,.load t x,ty,p,af,g⟩=some (.val (.agg ws.toArray),.none):=by
 obtain⟨cs,own,z,h1,h2,h3⟩:=ha.part (Nl0 hj) hv;subst ho;exact ZBo ht hs hx h1 h2 h3
def ZOF{α:Type}{xs:U α}{v:α}{x y:V6}{t e:J}{sz b o c:Nat}{a:O Addr}{k:Int}(hu:X.P.underlying t=some (.slice e))(hs:Yu X.P e=some sz)(hx:ev x=some (.slice a xs.length c))(hy:ev y=some (Ve k))(ha:a=some ⟨b,o,none⟩)(hk:YA xs k=some v):
 Xm X h ev ⟨d,.indexAddr t x y,ty,p,af,g⟩=some (.val (.pointer (some ⟨b,o+k.toNat*sz,none⟩)),.none):=by
 obtain⟨h1,h2,_⟩:=Za4 hk;subst ha;exact ZJ0 hu hs hx hy h1.symm h2
def ZtD{op:BinOp}{t:J}{P:V7}{x y:V6}{a b c:Int}(h1:op=.add/\c=a+b\/op=.sub/\c=a-b\/op=.mul/\c=a*b):XT P op t x y (Ve a) (Ve b)=some (.val (Ve (XO c)),.none):=ZtG h1
def Zhn{t:J}{P:V7}{x y:V6}{a b:Int}:XT P .add t x y (Ve a) (Ve b)=some (.val (Ve (XO (a+b))),.none):=ZtD (.inl ⟨rfl,rfl⟩)
def Zxa{t:J}{P:V7}{x y:V6}{a b:Int}:XT P .sub t x y (Ve a) (Ve b)=some (.val (Ve (XO (a-b))),.none):=ZtD (.inr (.inl ⟨rfl,rfl⟩))
def Zxi{t:J}{P:V7}{x y:V6}{a b:Int}:XT P .mul t x y (Ve a) (Ve b)=some (.val (Ve (XO (a*b))),.none):=ZtD (.inr (.inr ⟨rfl,rfl⟩))
end
def Sl.atG{α:Type}{e:UD α}{wm:Nat}{h:H}{a:O Addr}{c:Nat}{xs:U α}{k:Int}{x:α}{g:Z}(s:g=true->Sl e wm h a c xs)(hk:g=true->YA xs k=some x):
 ∃i o q,g=true->(a=some ⟨i,o,none⟩/\At h i (o+k.toNat*e.sz) (e.sh q x)/\Stb wm h i/\e.F wm h q x):=by
 cases g with
 | false=>exact⟨0,0,e.dflt,fun z=>by cases z⟩
 | true=>obtain⟨i,o,q,z⟩:=(s rfl).at_ (hk rfl);exact⟨i,o,q,fun _=>z⟩
def Src.atG{α:Type}{e:UD α}{wm:Nat}{h:H}{a:O Addr}{c:Nat}{xs:U α}{k:Int}{x:α}{g:Z}(s:g=true->Src e wm h a c xs)(hk:g=true->YA xs k=some x):
 ∃i o q,g=true->(a=some ⟨i,o,none⟩/\At h i (o+k.toNat*e.sz) (e.sh q x)/\e.F wm h q x):=by
 cases g with
 | false=>exact⟨0,0,e.dflt,fun z=>by cases z⟩
 | true=>obtain⟨i,o,q,z⟩:=(s rfl).at_ (hk rfl);exact⟨i,o,q,fun _=>z⟩
section
variable{ops:Va Oper}{l:U Oper}{fr:Fr}{ds:U Vc}{h:H}{d:Nat}{ty:J}{p:String}{af:Va Edge}{g:O (Nat×Z)}{c:Z}{QQ:Fr->Prop}
end
abbrev WR(X:Ctx)(f:V8)(args:Va N)(wm:Nat)(h:H)(R:N->H->Prop):Prop:=WF X f args wm h (fun e h'=>∃v,e=.ret v/\R v h')
def WF.ZLl{f:V8}{args:Va N}{h:H}{v:N}(hp:plain v=true)(k:WR X f args h.size h (fun v' _=>v'=v)):Pure X f args h v:=
 WF.pure hp (k.mono fun e h' ⟨v',h1,h2⟩=>by rw[h1,h2])
end
section
variable{X:Ctx}{n wm:Nat}{rd:O Nat}{Q:XX->Fs->Prop}
variable{ops:Va Oper}{l:U Oper}{fr:Fr}{ds:U Vc}{h:H}{d:Nat}{ty:J}{p:String}{af:Va Edge}{g:O (Nat×Z)}
section
variable{α:Type}{e:UD α}{lo:Nat}{h':H}
def QR.nil{wm:Nat}{cs:U N}{o:Nat}(hl:o<=cs.length):QR e wm h cs o ([]:U α):=⟨by simpa using hl,fun k x hk=>by simp at hk⟩
def QR.ZC4{wm:Nat}:∀(qs:U (e.Par×α)),(∀q∈qs,e.F wm h q.1 q.2)->QR e wm h (qs.flatMap fun q=>e.sh q.1 q.2) 0 (qs.map (·.2)):=by
 intro qs hq
 have hl:∀(qs:U (e.Par×α)),(qs.flatMap fun q=>e.sh q.1 q.2).length=qs.length*e.sz:=by
  intro qs
  induction qs with
  | nil=>simp
  | cons q qs ih=>rw[Ks,K2,ih,e.len,KK,V3];omega
 refine⟨by rw[hl];simp,?_⟩
 induction qs with
 | nil=>intro k x hk;simp at hk
 | cons q qs ih=>
   intro k x hk;cases k with
   | zero=>
     simp at hk;subst hk;refine⟨q.1,?_,hq q (by simp)⟩;rw[Ks,Nat.zero_mul,Nat.add_zero,List.drop_zero,List.take_append_of_le_length (by rw[e.len];exact K1 _),List.take_of_length_le (by rw[e.len];exact K1 _)]
   | succ k=>
     obtain⟨q',h1,h2⟩:=ih (fun q hq'=>hq q (by simp[hq'])) k x (by simpa using hk);refine⟨q',?_,h2⟩;rw[<-h1,Ks,List.drop_append,e.len,List.drop_of_length_le (by rw[e.len,V3];omega),Ge];congr 2;rw[V3];omega
def QR.cut{wm:Nat}{cs:U N}{o:Nat}{xs:U α}(a:QR e wm h cs o xs):QR e wm h ((cs.drop o).take (xs.length*e.sz)) 0 xs:=by
 have hl:=a.len;refine⟨by rw[Gj,GE];omega,fun k x hk=>?_⟩;obtain⟨q,h1,h2⟩:=a.get k x hk;refine⟨q,?_,h2⟩;have hk':k<xs.length:=(Li0 hk).1;have:(k+1)*e.sz<=xs.length*e.sz:=Gz _ hk';rw[V3]at this;rw[<-h1,List.drop_take,List.take_take,List.drop_drop,G4];congr 1;omega
def QR.ZK1{wm:Nat}{cs:U N}{o:Nat}{xs:U α}(hl:o+xs.length*e.sz<=cs.length)(a:QR e wm h ((cs.drop o).take (xs.length*e.sz)) 0 xs):QR e wm h cs o xs:=by
 refine⟨hl,fun k x hk=>?_⟩;obtain⟨q,h1,h2⟩:=a.get k x hk;refine⟨q,?_,h2⟩;have hk':k<xs.length:=(Li0 hk).1;have:(k+1)*e.sz<=xs.length*e.sz:=Gz _ hk';rw[V3]at this;rw[<-h1,List.drop_take,List.take_take,List.drop_drop,G4];congr 1;omega
def QR.append{wm:Nat}{Yf bs:U N}{xs ys:U α}(hl:Yf.length=xs.length*e.sz)(a:QR e wm h Yf 0 xs)(b:QR e wm h bs 0 ys):QR e wm h (Yf++bs) 0 (xs++ys):=by
 have h1:=a.len;have h2:=b.len;refine⟨by rw[K2,K2,Nat.add_mul];omega,fun k x hk=>?_⟩;rw[G4];by_cases hk':k<xs.length
 ·rw[GV hk']at hk;obtain⟨q,q1,q2⟩:=a.get k x hk;refine⟨q,?_,q2⟩;have:(k+1)*e.sz<=xs.length*e.sz:=Gz _ hk';rw[V3]at this;rw[G4]at q1;rw[<-q1,List.drop_append,List.take_append_of_le_length (by rw[GE];omega)]
 ·rw[V0 Vg]at hk;obtain⟨q,q1,q2⟩:=b.get _ x hk;refine⟨q,?_,q2⟩;have:xs.length*e.sz<=k*e.sz:=Gz _ Vg;rw[G4]at q1;rw[<-q1,List.drop_append,List.drop_of_length_le Vg,Ge,hl,Nat.sub_mul]
def QR.one{wm:Nat}{cs:U N}{xs:U α}(hl:cs.length=xs.length*e.sz)(a:QR e wm h cs 0 xs):cs.all Value.oneCell'=true:=by
 rw[Kx];intro v hv;obtain⟨j,hj⟩:=Gp.1 hv;have hjl:j<cs.length:=(Li0 hj).1;have hp:=e.pos;have hk:j / e.sz<xs.length:=Nat.div_lt_of_lt_mul (by rw[Nat.mul_comm,<-hl];exact hjl);obtain⟨q,q1,_⟩:=a.get (j / e.sz) xs[j / e.sz] (J0 hk);have hone:=e.one q xs[j / e.sz];rw[Kx]at hone;refine hone v ?_;rw[<-q1,Gp];refine⟨j % e.sz,?_⟩;rw[GD (Nat.mod_lt _ hp),GB,G4];have:j / e.sz*e.sz+j % e.sz=j:=Nat.div_add_mod' j e.sz;rw[this];exact hj
def Zbi(h:H)(i o m c sz:Nat):Go.ZF.reads h (.slice (some ⟨i,o,none⟩) m c) sz=bif Nat.beq m 0 then some [] else
 match h.at i with
 | .row cs _ _=>bif Nat.ble (o+m*sz) cs.length then some ((cs.drop o).take (m*sz)) else none
 | _=>none:=by cases i<;>cases o<;>rfl
def Src.reads{wm:Nat}{a:O Addr}{c:Nat}{xs:U α}(s:Src e wm h a c xs):∃vs,reads h (.slice a xs.length c) e.sz=some vs/\vs.length=xs.length*e.sz/\QR e wm h vs 0 xs:=by
 rcases s.mem with z|⟨i,o,cs,own,z,h1,h2,h3⟩
 ·subst z;refine⟨[],?_,by simp,QR.nil (by simp)⟩;rcases s.nl with⟨rfl,rfl⟩|⟨rfl,rfl⟩|⟨i,o,rfl⟩
  ·rfl
  ·rfl
  ·rw[Zbi];rfl
 ·subst h1;by_cases hx:xs=[]
  ·subst hx;exact⟨[],by rw[Zbi];rfl,by simp,QR.nil (by simp)⟩
  ·have hl:=h3.len;have hpos:0<xs.length:=List.length_pos_iff.2 hx;refine⟨(cs.drop o).take (xs.length*e.sz),?_,by rw[Gj,GE];omega,h3.cut⟩;rw[Zbi];have hb:Nat.beq xs.length 0=false:=by rw[Gh];intro hh;have:=Nb0 hh;omega
   simp only[hb,Cq0,h2];rw[Nm0 hl];rfl
def Wx.mk'{wm:Nat}{h:H}{xs:U α}{vs:U N}{i c:Nat}(hm:xs.length<=9223372036854775807)(hlo:lo<=i)(hr:h.at i=.row vs true e.sz)(hc:xs.length<=c / 2)(hcl:(c / 2)*e.sz<=vs.length)(ha:QR e wm h vs 0 xs):Wx e wm lo h (some ⟨i,0,none⟩) c xs:=
 ⟨hm,.inr ⟨i,0,vs,rfl,hlo,hr,hc,by omega,ha⟩⟩
def Zgl(P:V7)(ts:Va J)(sz KN:Nat):Prop:=∃el z,KC P ts=some (el,sz,KN,z)
def ZJ5{K:Prop}{J':N->H->Prop}{ts:Va J}{x y:V6}{KN:Nat}{a a2:O Addr}{c c2:Nat}{xs ys zs:U α}(lo:Nat)(k':∀v E h1,Xm X h (Yo fr) ⟨some d,.call {callee:=.builtin .append,args:=#[x,y],argTypes:=ts},ty,p,af,g⟩=some (.val v,E)->E.apply wm h=some h1->J' v h1->K)
 (hi:Zgl X.P ts e.sz KN) (hw:wm<=lo) (hlo:lo<=h.size) (hx:Yo fr x=some (.slice a xs.length c)) (hy:Yo fr y=some (.slice a2 ys.length c2)) (so:Wx e wm lo h a c xs) (sr:Src e wm h a2 c2 ys) (ha:app KN xs ys=some zs)
 (k:∀a' c' h',Up lo (JU a) h h'->Wx e wm lo h' a' c' zs->(∀i,JU a' i->JU a i\/i=h.size)->J' (.slice a' zs.length c') h'):K:=by
 obtain⟨rfl,hbd⟩:=ZBs ha;obtain⟨el,z,hi⟩:=hi;obtain⟨new,n1,n2,n3⟩:=sr.reads;have n4:=n3.one n2;have hpos:=e.pos;have hev:evs (Yo fr) (#[x,y]:Va V6).toList=some [.slice a xs.length c,.slice a2 ys.length c2]:=Zb hx (Zb hy Zd);have hls:QS (.slice a2 ys.length c2)=ys.length:=rfl
 have key:∀(v:N)(E:Eff),Q9 X.P h ts (.slice a xs.length c) (.slice a2 ys.length c2)=some (v,E)->Xm X h (Yo fr) ⟨some d,.call {callee:=.builtin .append,args:=#[x,y],argTypes:=ts},ty,p,af,g⟩=some (.val v,E):=by
  intro v E hE;rw[Uy,hev];show vE (Q9 X.P h ts (.slice a xs.length c) (.slice a2 ys.length c2))=_;rw[hE];rfl
 have ZMQ:KN=0\/(2*(xs.length+ys.length)+1000)<=2 ^ 47:=by
  rcases Nat.eq_zero_or_pos KN with z|z
  ·exact .inl z
  ·right;have:(2*(xs.length+ys.length)+1000)*1<=(2*(xs.length+ys.length)+1000)*KN:=Nat.mul_le_mul_left _ z;rw[Nat.mul_one]at this;exact KB this hbd
 have hby:1<=KN:=by
  unfold KC at hi;split at hi
  ·split at hi
   ·split at hi
    ·rename_i sz0 by0 z0 hs hb hz;cases hc:(Nat.ble 1 sz0&&Nat.ble 1 by0&&Nat.beq z0.cells.toList.length sz0)<;>rw[hc]at hi<;>simp at hi
     obtain⟨_,_,rfl,_⟩:=hi;rw[Ba0,Ba0]at hc;exact Nl0 hc.1.2
    ·cases hi
   ·cases hi
  ·cases hi
 have hmax:(xs++ys).length<=9223372036854775807:=by
  rw[K2];rcases ZMQ with z|z<;>omega
 have hle2:(xs++ys).length=xs.length+ys.length:=K2;rcases so.mem with⟨rfl,rfl,rfl⟩|⟨i,o,cs,rfl,hlo2,hrow,hc1,hc2,hel⟩
 ·-- of nothing
  by_cases hy0:ys=[]
  ·subst hy0;refine k' _ (.none) _ (key (Vd) _ ?_) rfl ?_
   ·unfold Q9;rw[hi];dsimp only;rw[n1];rfl
   ·exact k none 0 h ⟨K1 _,fun _ _ _=>rfl,fun i hb=>by obtain⟨o,hb⟩:=hb;cases hb⟩ Wx.nil (fun i hb=>by obtain⟨o,hb⟩:=hb;cases hb)
  ·have hyl:0<ys.length:=List.length_pos_iff.2 hy0;refine k' _ (.new (.row ([]++new) true e.sz)) _ (key (.slice (some ⟨h.size,0,none⟩) ([]++ys).length (2*([]++ys).length+1)) _ ?_) rfl ?_
   ·unfold Q9;rw[hi];dsimp only;rw[n1];dsimp only;rw[hls];have b1:Nat.ble (([]:U α).length+ys.length) (0 / 2)=false:=by rw[Gh];intro q;have q:=Nl0 q;rw[GQ,G4,Nat.zero_div]at q;omega
    rw[b1,Nm0 hbd,n4];simp only[Cq0,Bool.and_self,Cq1];have b2:reads h (.slice none ([]:U α).length 0) e.sz=some []:=rfl;rw[b2];simp
   ·refine k _ _ _ ⟨Nat.le_succ _,fun i hi _=>WQ hi _,fun i hb=>by obtain⟨o,hb⟩:=hb;cases hb⟩ ?_ (fun i hb=>by obtain⟨o,hb⟩:=hb;cases hb;exact .inr rfl);refine Wx.mk' hmax hlo (QV h _) (by simp only[Ge];omega) ?_ ?_
    ·simp only[Ge];rw[n2];have:(2*ys.length+1) / 2=ys.length:=Vg
     rw[this];omega
    ·simp only[Ge];exact n3.mono ((Up.push lo h _).fz hw)
 ·have hown:(h.at i).own=true:=by rw[hrow];rfl
  have hil:i<h.size:=YH hrow rfl;have hxl:o+xs.length*e.sz<=cs.length:=hel.len;by_cases hroom:xs.length+ys.length<=c / 2
  ·-- there is room
   by_cases hy0:ys=[]
   ·subst hy0;refine k' _ (.none) _ (key (.slice (some ⟨i,o,none⟩) xs.length c) _ ?_) rfl ?_
    ·unfold Q9;rw[hi];dsimp only;rw[n1];dsimp only;rw[hls,Nm0 hroom];rfl
    ·have:=k (some ⟨i,o,none⟩) c h ⟨K1 _,fun _ _ _=>rfl,fun j hb=>by obtain⟨o',hb⟩:=hb;cases hb;exact⟨hlo2,hown⟩⟩ (by simpa using so) (fun j hb=>.inl hb)
     simpa using this
   ·have hyl:0<ys.length:=List.length_pos_iff.2 hy0
    have hfit:o+xs.length*e.sz+new.length<=cs.length:=by
     rw[n2];have:(xs.length+ys.length)*e.sz<=c / 2*e.sz:=Gz _ hroom;rw[Nat.add_mul]at this;omega
    refine k' _ (.upd i (.row (splice cs (o+xs.length*e.sz) new) true e.sz)) (h.put i (.row (splice cs (o+xs.length*e.sz) new) true e.sz)) (key (.slice (some ⟨i,o,none⟩) (xs++ys).length c) _ ?_) ?_ ?_
    ·unfold Q9;rw[hi];dsimp only;rw[n1];dsimp only;rw[hls,Nm0 hroom];have b1:Nat.beq ys.length 0=false:=by rw[Gh];intro q;have:=Nb0 q;omega
     rw[b1,hrow];simp only[Cq1,Cq0];rw[Nm0 hfit,n4,hle2];rfl
    ·show(bif Nat.ble wm i&&(h.at i).own then some (h.put i _) else none)=_;rw[hown,Nm0 (KB hw hlo2)];rfl
    ·have hu:Up lo (JU (some ⟨i,o,none⟩)) h (h.put i (.row (splice cs (o+xs.length*e.sz) new) true e.sz)):=
      ⟨K1 _,fun j _ hn=>Xg (fun q=>hn ⟨o,by rw[q]⟩) _,fun j hb=>by obtain⟨o',hb⟩:=hb;cases hb;exact⟨hlo2,hown⟩⟩
     refine k _ _ _ hu ⟨hmax,.inr ⟨i,o,_,rfl,hlo2,Z4 hil _,by rw[hle2];exact hroom,?_,?_⟩⟩ (fun j hb=>.inl hb)
     ·simp only[splice,K2,Gj,GE];omega
     ·refine QR.ZK1 ?_ (QR.mono (hu.fz hw) ?_)
      ·simp only[splice,K2,Gj,GE,Nat.add_mul,<-n2];omega
      ·have e1:((splice cs (o+xs.length*e.sz) new).drop o).take ((xs++ys).length*e.sz)=(cs.drop o).take (xs.length*e.sz)++new:=by
        have l1:(cs.take (o+xs.length*e.sz)).length=o+xs.length*e.sz:=by rw[Gj];omega
        unfold splice;rw[Gc,List.drop_append_of_le_length Vg,hle2,Nat.add_mul,<-n2,List.take_append];have l2:((cs.take (o+xs.length*e.sz)).drop o).length=xs.length*e.sz:=by rw[GE,l1];omega
        rw[l2,List.take_of_length_le (by rw[l2];omega),List.drop_take];congr 1
        ·congr 1;omega
        ·have:xs.length*e.sz+new.length-xs.length*e.sz=new.length:=Vg
         rw[this,List.take_append_of_le_length Vh,List.take_of_length_le Vh]
       rw[e1];exact QR.append (by rw[Gj,GE];omega) hel.cut n3
  ·-- it grows
   have b0:Nat.ble (xs.length+ys.length) (c / 2)=false:=by rw[Gh];intro q;exact hroom (Nl0 q)
   have hold:reads h (.slice (some ⟨i,o,none⟩) xs.length c) e.sz=some ((cs.drop o).take (xs.length*e.sz)):=by
    rw[Zbi];cases hb:Nat.beq xs.length 0 with
    | true=>
      have:=Nb0 hb;rw[this];simp
    | false=>
      simp only[Cq0,hrow];rw[Nm0 hxl];rfl
   have hol:((cs.drop o).take (xs.length*e.sz)).length=xs.length*e.sz:=by rw[Gj,GE];omega
   have hrl:((cs.drop o).take (xs.length*e.sz)++new).length=(xs++ys).length*e.sz:=by rw[K2,hol,n2,hle2,Nat.add_mul]
   have hcap:(2*(xs++ys).length+1) / 2=(xs++ys).length:=Vg
   cases ZDH:Nat.beq (c % 2) 0 with
   | true=>
     refine k' _ (.new (.row ((cs.drop o).take (xs.length*e.sz)++new) true e.sz)) _ (key (.slice (some ⟨h.size,0,none⟩) (xs++ys).length (2*(xs++ys).length+1)) _ ?_) rfl ?_
     ·unfold Q9;rw[hi];dsimp only;rw[n1];dsimp only;rw[hls,b0,Nm0 hbd,n4,hold,ZDH,hle2];rfl
     ·refine k _ _ _ ⟨Nat.le_succ _,fun j hj _=>WQ hj _,fun j hb=>by obtain⟨o',hb⟩:=hb;cases hb;exact⟨hlo2,hown⟩⟩ ?_ (fun j hb=>by obtain⟨o',hb⟩:=hb;cases hb;exact .inr rfl);refine Wx.mk' hmax hlo (QV h _) Vg (by rw[hcap,hrl];exact K1 _) ?_;exact(QR.append hol hel.cut n3).mono ((Up.push lo h _).fz hw)
   | false=>
     refine k' _ (.grow i (.row ((cs.drop o).take (xs.length*e.sz)++new) true e.sz)) ((h.put i .dead).push (.row ((cs.drop o).take (xs.length*e.sz)++new) true e.sz)) (key (.slice (some ⟨h.size,0,none⟩) (xs++ys).length (2*(xs++ys).length+1)) _ ?_) ?_ ?_
     ·unfold Q9;rw[hi];dsimp only;rw[n1];dsimp only;rw[hls,b0,Nm0 hbd,n4,hold,ZDH];simp only[Cq0,Bool.and_self,Cq1];rw[hrow];dsimp only;rw[V4,hle2];rfl
     ·show(bif Nat.ble wm i&&(h.at i).own&&true then some ((h.put i .dead).push _) else none)=_;rw[hown,Nm0 (KB hw hlo2)];rfl
     ·have hu:Up lo (JU (some ⟨i,o,none⟩)) h ((h.put i .dead).push (.row ((cs.drop o).take (xs.length*e.sz)++new) true e.sz)):=
       ⟨Nat.le_succ _,fun j hj hn=>by rw[WQ (by simpa using hj),Xg (fun q=>hn ⟨o,by rw[q]⟩)],fun j hb=>by obtain⟨o',hb⟩:=hb;cases hb;exact⟨hlo2,hown⟩⟩
      refine k _ _ _ hu ?_ (fun j hb=>by obtain⟨o',hb⟩:=hb;cases hb;exact .inr rfl);refine Wx.mk' hmax hlo (by have:=QV (h.put i .dead) (.row ((cs.drop o).take (xs.length*e.sz)++new) true e.sz);simpa using this) Vg (by rw[hcap,hrl];exact K1 _) ?_;exact(QR.append hol hel.cut n3).mono (hu.fz hw)
end
def JU.none{i:Nat}:¬ JU Option.none i:=fun⟨_,h⟩=>by cases h
section
variable{α:Type}{e:UD α}{lo:Nat}{h':H}
end
def Qd.frozen{ρ:Ren}{w:V9}{b d:Nat}{l:Nat×Nat}{cs:U N}{o:Z}{z z':Nat}(h:Qd ρ w b d l (.row cs o z)):Qd ρ w b d l (.row cs false z'):=by
 obtain⟨cc,el,fz,a,_,c,q⟩:=h;exact⟨cc,el,fz,a,(fun e=>by cases e),c,q⟩
def Rel.freeze{ρ:Ren}{h:H}{w:V9}{i:Nat}{cs:U N}{o:Z}{z:Nat}(hr:h.at i=.row cs o z)(r:Rel ρ h w):Rel ρ (h.put i (.row cs false 0)) w:=by
 have hi:=YH hr rfl
 have hat:∀j,(h.put i (.row cs false 0)).at j=if j=i then .row cs false 0 else h.at j:=fun j=>by
  by_cases e:j=i
  ·subst e;rw[Z4 hi,if_pos rfl]
  ·rw[Xg e,if_neg e]
 refine⟨r.dom,fun j b d e=>?_,fun j k b d d' e1 e2 ho hl=>?_⟩
 ·rw[hat];have:=r.obj j b d e;split
  ·rename_i e2;subst e2;rw[hr]at this;exact this.frozen
  ·exact this
 ·rw[hat]at ho hl;refine r.inj j k b d d' e1 e2 ?_ ?_
  ·split at ho
   ·cases ho
   ·exact ho
  ·split at hl
   ·rename_i e3;subst e3;rw[hr];rfl
   ·exact hl
def Stp.freeze{wm:Nat}{ρ ρ':Ren}{h h':H}{w w':V9}{i:Nat}{cs:U N}{z:Nat}(hw:wm<=i)(hr:h.at i=.row cs true z)(a:Stp wm ρ (h.put i (.row cs false 0)) w ρ' h' w'):Stp wm ρ h w ρ' h' w':=by
 have hi:=YH hr rfl
 have hat:∀j,(h.put i (.row cs false 0)).at j=if j=i then .row cs false 0 else h.at j:=fun j=>by
  by_cases e:j=i
  ·subst e;rw[Z4 hi,if_pos rfl]
  ·rw[Xg e,if_neg e]
 have hown:∀j,((h.put i (.row cs false 0)).at j).own=true->(h.at j).own=true:=fun j e=>by
  rw[hat]at e;split at e
  ·cases e
  ·exact e
 refine⟨a.ext,a.size,fun j hj=>?_,fun j hj e=>hown j (a.own j hj e),fun j hj e=>?_,a.os,a.tape,a.output,a.Y8,fun b hb hno=>a.frame b hb fun j d h1 h2 h3=>hno j d h1 h2 (hown j h3),fun j b d e e'=>?_⟩
 ·rw[a.keep j hj,hat,if_neg Vg]
 ·have:=a.live j hj e;rw[hat]at this;split at this
  ·rename_i e2;subst e2;rw[hr];rfl
  ·exact this
 ·obtain⟨h1,h2⟩:=a.Jv j b d e e';exact⟨h1,h2.imp id fun⟨k,d',q1,q2,q3⟩=>⟨k,d',q1,q2,hown k q3⟩⟩
def WO.ZgQ{i:Nat}{cs:U N}{z:Nat}(hw:wm<=i)(hr:h.at i=.row cs true z)(k:WO X n wm rd ops l ⟨fr,ds,h.put i (.row cs false 0),none⟩ Q):WO X n wm rd ops l ⟨fr,ds,h,none⟩ Q:=by
 obtain⟨e,s',hq,hk⟩:=k;refine⟨e,s',hq,fun Q' ρ F a w hi Zt hF hq'=>hk Q' ⟨hi.rel.freeze hr,hi.fr,hi.ds⟩ (by simpa using Zt) hF fun e' a' w' hp=>hq' e' a' w' ?_⟩;obtain⟨ρ',h1,h2,h3⟩:=hp;exact⟨ρ',h1,h2,h3.freeze hw hr⟩
def WO.freeze{α:Type}{e:UD α}{lo:Nat}{a:O Addr}{c:Nat}{xs:U α}(hw:wm<=lo)(so:Wx e wm lo h a c xs)(k:∀h',Up lo (JU a) h h'->Sl e wm h' a c xs->WO X n wm rd ops l ⟨fr,ds,h',none⟩ Q):WO X n wm rd ops l ⟨fr,ds,h,none⟩ Q:=by
 rcases so.mem with⟨rfl,rfl,rfl⟩|⟨i,o,cs,rfl,h1,h2,h3,h4,h5⟩
 ·exact k h ⟨K1 _,fun _ _ _=>rfl,fun i hb=>by obtain⟨o,hb⟩:=hb;cases hb⟩ Sl.nil
 ·have hu:Up lo (JU (some ⟨i,o,none⟩)) h (h.put i (.row cs false 0)):=
   ⟨K1 _,fun j _ hn=>Xg (fun q=>hn ⟨o,by rw[q]⟩) _,fun j hb=>by obtain⟨o',hb⟩:=hb;cases hb;exact⟨h1,by rw[h2];rfl⟩⟩
  exact WO.ZgQ (KB hw h1) h2 (k _ hu ⟨so.max,so.cap,so.nl,.inr ⟨i,o,cs,false,0,rfl,Z4 (YH h2 rfl) _,.inr rfl,h5.mono (hu.fz hw)⟩⟩)
def WC.ZgQ{cd:Code}{i:Nat}{cs:U N}{z:Nat}(hw:wm<=i)(hr:h.at i=.row cs true z)(k:WC X n wm rd cd ⟨fr,ds,h.put i (.row cs false 0),none⟩ Q):WC X n wm rd cd ⟨fr,ds,h,none⟩ Q:=by
 obtain⟨e,s',hq,hk⟩:=k;refine⟨e,s',hq,fun ρ a w F Zt hi hF=>wpIn_mono (hk ρ a w F (by simpa using Zt) ⟨hi.rel.freeze hr,hi.fr,hi.ds⟩ hF) ?_⟩;rintro e' a' w' ⟨ρ',h1,h2,h3⟩;exact⟨ρ',h1,h2,h3.freeze hw hr⟩
def WC.freeze{cd:Code}{α:Type}{e:UD α}{lo:Nat}{a:O Addr}{c:Nat}{xs:U α}(hw:wm<=lo)(so:Wx e wm lo h a c xs)(k:∀h',Up lo (JU a) h h'->Sl e wm h' a c xs->WC X n wm rd cd ⟨fr,ds,h',none⟩ Q):WC X n wm rd cd ⟨fr,ds,h,none⟩ Q:=by
 rcases so.mem with⟨rfl,rfl,rfl⟩|⟨i,o,cs,rfl,h1,h2,h3,h4,h5⟩
 ·exact k h ⟨K1 _,fun _ _ _=>rfl,fun i hb=>by obtain⟨o,hb⟩:=hb;cases hb⟩ Sl.nil
 ·have hu:Up lo (JU (some ⟨i,o,none⟩)) h (h.put i (.row cs false 0)):=
   ⟨K1 _,fun j _ hn=>Xg (fun q=>hn ⟨o,by rw[q]⟩) _,fun j hb=>by obtain⟨o',hb⟩:=hb;cases hb;exact⟨h1,by rw[h2];rfl⟩⟩
  exact WC.ZgQ (KB hw h1) h2 (k _ hu ⟨so.max,so.cap,so.nl,.inr ⟨i,o,cs,false,0,rfl,Z4 (YH h2 rfl) _,.inr rfl,h5.mono (hu.fz hw)⟩⟩)
end
section
variable{X:Ctx}{P:V7}
def ZdY{α β:Type}(s:Sem α)(f:α->Sem β):Zr P (s >>=f)=match Zr P s with
 | some (.ok a)=>Zr P (f a)
 | some (.error v)=>some (.error v)
 | none=>none:=by
 induction s with
 | pure a=>rfl
 | program k ih=>exact ih P
 | halt x=>cases x<;>rfl
 | load|store|new|shape|freeze|frozen|getObj|setObj|choose|sys|mark=>rfl
def prb{α β:Type}{s:Sem α}{f:α->Sem β}{a:α}(h:Zr P s=some (.ok a)):Zr P (s >>=f)=Zr P (f a):=by rw[ZdY,h]
def Yx {t:J} {u:TypeDesc} (h:P.underlying t=some u):Zr P (underlying t)=some (.ok u):=by
 show Zr P (match P.underlying t with | some d=>pure d | none=>stuck "no such type")=_;rw [h];rfl
def eq_int {t:J} {k:IntKind} {a b:Int} {d:Nat} (hu:P.underlying t=some (.int k)):Zr P (Op.equalIn (d + 1) t (.int k a) (.int k b))=some (.ok (a==b)):=by
 unfold Op.equalIn;rw [prb (Yx hu)];show Zr P (if k=k then pure (a==b) else stuck "==: kinds differ")=_;rw [if_pos rfl];rfl
def ZEA{t:J}{a b:Z}{d:Nat}(hu:P.underlying t=some .bool):Zr P (Op.equalIn (d+1) t (.bool a) (.bool b))=some (.ok (a==b)):=by
 unfold Op.equalIn;rw[prb (Yx hu)];rfl
def ZJs{t:J}{a b:Y}{d:Nat}(hu:P.underlying t=some .string):Zr P (Op.equalIn (d+1) t (.string a) (.string b))=some (.ok (a==b)):=by
 unfold Op.equalIn;rw[prb (Yx hu)];rfl
def Zdc{t:J}{cs:Va N}{off:Nat}{v:N}(ht:Yw P t=some false)(hv:cs[off]? =some v):Zr P (part t cs off)=some (.ok v):=by
 unfold Yw at ht;unfold part isAgg;cases hu:P.underlying t with
 | none=>rw[hu]at ht;cases ht
 | some u=>
   rw[hu]at ht;rw[prb (a:=false)]
   ·simp only[hv];rfl
   ·rw[prb (Yx hu)];cases u<;>first|rfl | (cases ht;done)
def FEq (P:V7) (d:Nat) (xs ys:Va N):U Field ->U Z ->Prop
 | [],[]=>True
 | f::fl,b::bs=>(f.name ≠ "_" ∧∃ v w,Zr P (part f.type xs f.offset)=some (.ok v)∧Zr P (part f.type ys f.offset)=some (.ok w)∧Zr P (Op.equalIn d f.type v w)=some (.ok b))∧FEq P d xs ys fl bs
 | _,_=>False
def ZD9 {d:Nat} {xs ys:Va N}:∀ {fl:U Field} {bs:U Z},FEq P d xs ys fl bs ->
 Zr P (forIn fl ((none:O Z),()) fun f _=>if f.name ≠ "_" then do
  let a ← part f.type xs f.offset
  let b ← part f.type ys f.offset
  let r ← Op.equalIn d f.type a b
  if(!r)=true then pure (ForInStep.done (some false,())) else pure (ForInStep.yield (none,()))
  else pure (ForInStep.yield (none,())):Sem (O Z×Unit))=some (.ok (bif bs.all id then none else some false,())):=by
 intro fl
 induction fl with
 | nil=>
   intro bs h;cases bs with
   | nil=>rfl
   | cons=>exact h.elim
 | cons f fl ih=>
   intro bs h;cases bs with
   | nil=>exact h.elim
   | cons b bs=>
     obtain⟨⟨h1,v,w,h2,h3,h4⟩,h5⟩:=h;rw [List.forIn_cons,if_pos h1,ZdY,prb h2,prb h3,prb h4];cases b with
     | false=>rfl
     | true=>
       have:=ih h5;have e:(true::bs).all id=bs.all id:=by simp
       rw [e,← this];rfl
def ZwO{t:J}{fs:Va Field}{xs ys:Va N}{d:Nat}{bs:U Z}(hu:P.underlying t=some (.struct fs))(hst:P.stoodInHeld t=false)(hf:FEq P d xs ys fs.toList bs):
 Zr P (Op.equalIn (d+1) t (.agg xs) (.agg ys))=some (.ok (bs.all id)):=by
 unfold Op.equalIn;rw[prb (Yx hu)];show Zr P (if P.stoodInHeld t=true then _ else _)=_;rw[hst,if_neg (by simp)];dsimp only;have:=ZD9 hf;rw[<-Array.forIn_toList];rw[prb this];cases bs.all id<;>rfl
def ZqY{t:J}{x y:V6}{xs ys:Va N}{op:BinOp}(hop:op=.eql\/op=.neq)(hg:P.eqGuardType P.depth t=false):Zr P (eqGuard op t x y (.agg xs) (.agg ys))=some (.ok ()):=by
 rcases hop with rfl|rfl
 ·show Zr P (if(!P.eqGuardType P.depth t)=true then _ else _)=_;rw[hg];rfl
 ·show Zr P (if(!P.eqGuardType P.depth t)=true then _ else _)=_;rw[hg];rfl
def ZO3(P:V7)(t:J)(xs ys:U N)(b:Z):Prop:=P.eqGuardType P.depth t=false/\Zr P (Op.equal t (.agg xs.toArray) (.agg ys.toArray))=some (.ok b)
def ZBM{t:J}{x y:V6}{xs ys:U N}{b:Z}(h:ZO3 P t xs ys b)(h1:xs.all scalar=true)(h2:ys.all scalar=true):XT P .eql t x y (.agg xs.toArray) (.agg ys.toArray)=some (.val (.bool b),.none):=by
 have hp:(plain (.agg xs.toArray)&&plain (.agg ys.toArray))=true:=by
  have e1:plain (.agg xs.toArray)=xs.all scalar:=rfl;have e2:plain (.agg ys.toArray)=ys.all scalar:=rfl;rw[e1,e2,h1,h2];rfl
 unfold XT;rw[hp,Cq1];unfold U0;rw[prb (ZqY (.inl rfl) h.1)]
 have:Zr P (binOp .eql t (.agg xs.toArray) (.agg ys.toArray))=some (.ok (.bool b)):=by
  show Zr P (do pure (Value.bool (<-Op.equal t (.agg xs.toArray) (.agg ys.toArray))):Sem N)=_;rw[prb h.2];rfl
 rw[this];rfl
def Qf{h:H}{t:J}{b o oo j:Nat}{vs:U N}{v:N}(ht:Yw P t=some false)(ha:At h b o vs)(ho:oo=o+j)(hv:vs[j]? =some v):Ko P h t (.pointer (some ⟨b,oo,none⟩))=some v:=by
 obtain⟨cs,own,z,h1,h2⟩:=ha.cell hv;subst ho;exact Slc.load h1 ht h2
def Xz{h:H}{t:J}{b o oo j sz:Nat}{vs ws:U N}(ht:Yw P t=some true)(hs:Yu P t=some sz)(ha:At h b o vs)(ho:oo=o+j)(hj:Nat.ble (j+sz) vs.length=true)(hv:(vs.drop j).take sz=ws):Ko P h t (.pointer (some ⟨b,oo,none⟩))=some (.agg ws.toArray):=by
 obtain⟨cs,own,z,h1,h2,h3⟩:=ha.part (Nl0 hj) hv;subst ho;exact ZmL ht hs h1 h2 h3
def Zj{fr:Fr}{h:H}:ZcK P fr h []=some []:=rfl
def Zx{fr:Fr}{h:H}{t:Nat}{v:N}{rs:U ResultVar}{vs:U N}(hv:Yo fr (.tmp t)=some v)(hr:ZcK P fr h rs=some vs):ZcK P fr h (.tmp t::rs)=some (v::vs):=by
 have e:Zrr P fr h (.tmp t)=some v:=hv;simp only[ZcK,e,hr]
def Yn{fr:Fr}{h:H}{a t:Nat}{p v:N}{rs:U ResultVar}{vs:U N}(hp:fr.at a=p)(hv:Ko P h t p=some v)(hr:ZcK P fr h rs=some vs):ZcK P fr h (.cell a t::rs)=some (v::vs):=by
 have e:Zrr P fr h (.cell a t)=some v:=by show Ko P h t (fr.at a)=some v;rw[hp];exact hv
 simp only[ZcK,e,hr]
def YK.XY{fn:Func}{R:N->H->Prop}{fr:Fr}{h:H}{wr:O Nat}{rs:U ResultVar}{v:N}(hr:fn.results.toList=rs)(hv:ZcK X.P fr h rs=some [v])(k:R v h):YK X fn (fun e h'=>∃v,e=.ret v/\R v h') .ret ⟨fr,[],h,wr⟩:=by
 refine⟨⟨rfl,v,?_,v,rfl,k⟩⟩;unfold QJ;dsimp only;rw[hr,hv]
def YK.gen{fn:Func}{R:N->H->Prop}{fr:Fr}{h:H}{wr:O Nat}{rs:U ResultVar}{vs:U N}(hr:fn.results.toList=rs)(hv:ZcK X.P fr h rs=some vs)(hl:Nat.beq vs.length 1=false)(k:R (.tuple vs.toArray) h):YK X fn (fun e h'=>∃v,e=.ret v/\R v h') .ret ⟨fr,[],h,wr⟩:=by
 refine⟨⟨rfl,_,?_,_,rfl,k⟩⟩;unfold QJ;dsimp only;rw[hr,hv]
 match vs,hl with
 | [],_=>rfl
 | [_],h=>cases h
 | _::_::_,_=>rfl
def YK.YG{fn:Func}{R:U4->H->Prop}{s:Fs}(k:YK X fn R .ret s):YK X fn R .normal s:=⟨k.out⟩
def Sl.cases{α:Type}{e:UD α}{wm:Nat}{h:H}{a:O Addr}{c:Nat}{xs:U α}(s:Sl e wm h a c xs):(a=none/\c=0/\xs=[])\/∃q,a=some q:=by
 rcases s.nl with⟨h1,h2⟩|⟨h1,_⟩|⟨i,o,h1⟩
 ·refine .inl ⟨h1,h2,?_⟩;rcases s.mem with z|⟨i,o,cs,own,z,q1,_⟩
  ·exact z
  ·rw[h1]at q1;cases q1
 ·exact .inr ⟨_,h1⟩
 ·exact .inr ⟨_,h1⟩
def Zxd{t e:J}{x y:V6}(hu:P.underlying t=some (.slice e)):XT P .eql t x y (Vd) (Vd)=some (.val (.bool true),.none):=by
 have hp:(plain (Vd)&&plain (Vd))=true:=rfl;unfold XT;rw[hp,Cq1];unfold U0;have h1:Zr P (eqGuard .eql t x y (Vd) (Vd))=some (.ok ()):=rfl;rw[prb h1]
 have:Zr P (binOp .eql t (Vd) (Vd))=some (.ok (.bool true)):=by
  show Zr P (do pure (Value.bool (<-Op.equal t (Vd) (Vd))):Sem N)=_
  have h2:Zr P (Op.equal t (Vd) (Vd))=some (.ok true):=by
   unfold Op.equal;show Zr P (Op.equalIn (9999+1) t _ _)=_;unfold Op.equalIn;rw[prb (Yx hu)];rfl
  rw[prb h2];rfl
 rw[this];rfl
def Zxe{t e:J}{x y:V6}{q:Addr}{n c:Nat}(hu:P.underlying t=some (.slice e)):XT P .eql t x y (.slice (some q) n c) (Vd)=some (.val (.bool false),.none):=by
 have hp:(plain (.slice (some q) n c)&&plain (Vd))=false:=rfl;unfold XT;rw[hp,Cq0];have:K5 P t (.slice (some q) n c) (Vd)=some false:=by unfold K5;rw[hu];rfl
 rw[this]
def ZJ3{α:Type}(KN:Nat)(h:1000*KN<=2 ^ 47):app KN ([]:U α) []=some []:=ZkM (by simpa using h)
def ZkS{op:BinOp}{t:J}{x y:V6}{a b r:Z}(hu:P.underlying t=some .bool)(h:op=.eql/\r=(a==b)\/op=.neq/\r=(a !=b)):XT P op t x y (.bool a) (.bool b)=some (.val (.bool r),.none):=by
 have hp:(plain (.bool a)&&plain (.bool b))=true:=rfl;have h2:Zr P (Op.equal t (.bool a) (.bool b))=some (.ok (a==b)):=ZEA (d:=9999) hu;unfold XT;rw[hp,Cq1];unfold U0;rcases h with⟨rfl,rfl⟩|⟨rfl,rfl⟩
 ·have h1:Zr P (eqGuard .eql t x y (.bool a) (.bool b))=some (.ok ()):=rfl;rw[prb h1]
  have:Zr P (binOp .eql t (.bool a) (.bool b))=some (.ok (.bool (a==b))):=by
   show Zr P (do pure (Value.bool (<-Op.equal t (.bool a) (.bool b))):Sem N)=_;rw[prb h2];rfl
  rw[this];rfl
 ·have h1:Zr P (eqGuard .neq t x y (.bool a) (.bool b))=some (.ok ()):=rfl;rw[prb h1]
  have:Zr P (binOp .neq t (.bool a) (.bool b))=some (.ok (.bool (a !=b))):=by
   show Zr P (do pure (Value.bool (!(<-Op.equal t (.bool a) (.bool b)))):Sem N)=_;rw[prb h2];rfl
  rw[this];rfl
def Zxj{t:J}{x y:V6}{a b:Z}(hu:P.underlying t=some .bool):XT P .eql t x y (.bool a) (.bool b)=some (.val (.bool (a==b)),.none):=ZkS hu (.inl ⟨rfl,rfl⟩)
def Zxf{t:J}{x y:V6}{a b:Z}(hu:P.underlying t=some .bool):XT P .neq t x y (.bool a) (.bool b)=some (.val (.bool (a !=b)),.none):=ZkS hu (.inr ⟨rfl,rfl⟩)
end
section
abbrev SfT:=U (Nat×Nat×Nat×(YD->Prop))×U (Nat×U Nat)
variable{X:Ctx}{n wm:Nat}{rd:O Nat}{ops:Va Oper}{l:U Oper}{fr:Fr}{ds:U Vc}{h h1:H}{ty:J}{p:String}{af:Va Edge}{g:O (Nat×Z)}{m:Nat}{sf:SfT}
def ZGA(A:YD):Prop:=∀(ρ ρ':Ren)(w:V9)(b d:Nat)(l:Nat×Nat),Qd ρ w b d l A->Qd ρ' w b d l A
def Prm(P:V7)(wm:Nat)(rd:O Nat)(ops:Va Oper)(o:Oper)(fr:Fr)(h:H)(v:N)(x:Nat)(C:YD->Prop):Prop:=
 x<h.size/\ZGA (h.at x)/\Qk P wm rd ops o (fun _=>False) fr h v h/\∀A,C A->ZGA A/\Qk P wm rd ops o (fun _=>False) fr (h.put x A) v (h.put x A)
variable{Q:Fr->H->Prop}
def ZO1(wm:Nat)(t:O Nat):MOf false wm t=fun x=>t=some x:=by funext x;unfold MOf;simp
def SV(X:Ctx)(wm:Nat)(o:Oper)(fr:Fr)(h:H)(v:N)(h1:H)(tg:Z):Prop:=∃E,Xm X h (Yo fr) o=some (.val v,E)/\E.apply wm h=some h1/\(tg=false->E.tgt=none)
def SU(X:Ctx)(wm:Nat)(o:Oper)(fr:Fr)(h:H)(h1:H)(tg:Z):Prop:=∃E,Xm X h (Yo fr) o=some (.skip,E)/\E.apply wm h=some h1/\(tg=false->E.tgt=none)
def ZA9{ps:U Nat}{i j:Nat}(h:i≠j):comp ps i j=comp ps j i:=by
 unfold comp;rcases Gk i j with z|z
 ·have h1:Nat.blt i j=true:=by rw[G6];exact z
  have h2:Nat.blt j i=false:=by rw[Gh];intro q;rw[G6]at q;omega
  rw[h1,h2];rfl
 ·have h1:Nat.blt j i=true:=by rw[G6];omega
  have h2:Nat.blt i j=false:=by rw[Gh];intro q;rw[G6]at q;omega
  rw[h1,h2];rfl
def ZFk{x y:V6}{t:J}{b o z sz:Nat}{cs cs' vs:U N}{v:N}{d:O Tmp}(hs:Yu X.P t=some sz)(hx:Yo fr x=some (.pointer (some ⟨b,o,none⟩)))(hy:Yo fr y=some v)
 (hr:h.at b=.row cs true z) (hb:wm<=b) (hvs:v.cells.toList=vs) (hn:vs.length=sz) (hl:o+sz<=cs.length) (hc:vs.all Value.oneCell'=true) (hv:splice cs o vs=cs'):
 Xm X h (Yo fr) ⟨d,.store t x y,ty,p,af,g⟩=some (.skip,.upd b (.row cs' true z))/\(Eff.upd b (.row cs' true z)).apply wm h=some (h.put b (.row cs' true z)):=by
 subst hvs;refine⟨?_,?_⟩
 ·rw[Zw3,hx,hy];dsimp only
  have:Zhf X.P h t (.pointer (some ⟨b,o,none⟩)) v=some (.upd b (.row cs' true z)):=by
   unfold Zhf;rw[hs];dsimp only;rw[hr];dsimp only;have h1:Nat.beq v.cells.toList.length sz=true:=by rw[hn];exact V4 sz
   have h2:Nat.ble (o+sz) cs.length=true:=Nm0 hl;rw[h1,h2,hc,hv];rfl
  rw[this];rfl
 ·show(bif Nat.ble wm b&&(h.at b).own then some (h.put b (.row cs' true z)) else none)=_;rw[hr];have:Nat.ble wm b=true:=Nm0 hb;rw[this];rfl
def XC{d:O Tmp}{t:J}{ps:Va (Nat×V6)}{zs cs':U N}{pl:U (Nat×Nat)}{pvs:U (Nat×N)}{ev:V6->O N}(hb:JO X.P t zs pl)(hp:evp ev ps.toList=some pvs)(ho:Zj2 (fun i=>pl[i]?) zs.length pvs=true)(hv:ZqA (fun i=>(pl.getD i (0,0)).1) zs pvs=cs'):
 Xm X h ev ⟨d,.build t ps,ty,p,af,g⟩=some (.val (.agg cs'.toArray),.none):=by
 subst hv;obtain⟨z,fs,h1,rfl,h3,h4⟩:=hb;show(match evp ev ps.toList with|some ps=>vN (ZkQ X.P t ps) | none=>none)=_;rw[hp];dsimp only;unfold ZkQ;rw[h1,h3];dsimp only;rw[h4];dsimp only;rw[Zrw (off:=fun i=>(pl.getD i (0,0)).1) (fun i p e=>by rw[Gi,e];rfl) _ _ ho]
 rfl
section
variable{α:Type}{e:UD α}
end
end
section
variable{X:Ctx}{P:V7}{κ ν:Type}[DecidableEq κ]
structure ZcY(P:Program)(kt:TypeId)(kv:κ->Value):Prop where
 pl:∀x,plain (kv x)=true
 ok:∀e x,Kk P e kt (kv x)=true
 same:∀x,Instr.sameBits 10000 (kv x) (kv x)=true
 eq:∀x y,Zr P (Op.equal kt (kv x) (kv y))=some (.ok (decide (x=y)))
 kind:∃u,P.underlying kt=some u/\((∀x y,Instr.sameNow u (kv x) (kv y)=none)\/∀x y,Instr.sameNow u (kv x) (kv y)=some (decide (x=y)))
def Xc(kv:κ->N)(vv:ν->N)(l:U (κ×ν))(bs:U Nat):U Vb:=List.zipWith (fun p b=>⟨kv p.1,vv p.2,b⟩) l bs
variable{kt:J}{kv:κ->N}{vv:ν->N}
theorem Zqz(K:ZcY P kt kv)(k:κ):∀(l:U (κ×ν))(bs:U Nat)(i:Nat),bs.length=l.length->Zr P (Instr.findAsking kt (kv k) (Xc kv vv l bs) i)=some (.ok ((Z8 l k).map fun q=>(i+q.1,vv q.2))):=by
 intro l
 induction l with
 | nil=>intro bs i _;rfl
 | cons p l ih=>
   intro bs i hb;cases bs with
   | nil=>cases hb
   | cons b bs=>
     show Zr P (do if <-Op.equal kt (kv k) (kv p.1) then pure (some (i,vv p.2)) else Instr.findAsking kt (kv k) (Xc kv vv l bs) (i+1))=_;rw[prb (K.eq k p.1)];unfold Z8;by_cases e:p.1=k
     ·rw[if_pos e,decide_eq_true e.symm];rfl
     ·rw[if_neg e,decide_eq_false (fun z=>e z.symm)];show Zr P (Instr.findAsking kt (kv k) (Xc kv vv l bs) (i+1))=_;rw[ih bs (i+1) (by simpa using hb)];cases Z8 l k with
      | none=>rfl
      | some q=>simp[GU,Nat.add_comm 1]
theorem ZAA{u:TypeDesc}(hs:∀x y,Instr.sameNow u (kv x) (kv y)=some (decide (x=y)))(k:κ):∀(l:U (κ×ν))(bs:U Nat)(i:Nat),bs.length=l.length->Instr.findNow u (kv k) (Xc kv vv l bs) i=some ((Z8 l k).map fun q=>(i+q.1,vv q.2)):=by
 intro l
 induction l with
 | nil=>intro bs i _;rfl
 | cons p l ih=>
   intro bs i hb;cases bs with
   | nil=>cases hb
   | cons b bs=>
     show(match Instr.sameNow u (kv k) (kv p.1) with|some true=>some (some (i,vv p.2)) | some false=>Instr.findNow u (kv k) (Xc kv vv l bs) (i+1) | none=>none)=_;rw[hs];unfold Z8;by_cases e:p.1=k
     ·rw[if_pos e,decide_eq_true e.symm];rfl
     ·rw[if_neg e,decide_eq_false (fun z=>e z.symm)];show Instr.findNow u (kv k) (Xc kv vv l bs) (i+1)=_;rw[ih bs (i+1) (by simpa using hb)];cases Z8 l k with
      | none=>rfl
      | some q=>simp[GU,Nat.add_comm 1]
theorem Zba(K:ZcY P kt kv)(k:κ)(l:U (κ×ν))(bs:U Nat)(hb:bs.length=l.length):ZhS P kt (kv k) (Xc kv vv l bs)=some ((Z8 l k).map fun q=>(q.1,vv q.2)):=by
 obtain⟨u,hu,hk⟩:=K.kind;unfold ZhS Instr.findKey;rw[prb (Yx hu)];rcases hk with hk|hk
 ·cases l with
  | nil=>cases bs with
    | nil=>rfl
    | cons=>cases hb
  | cons p l=>
    cases bs with
    | nil=>cases hb
    | cons b bs=>
      have:Instr.findNow u (kv k) (Xc kv vv (p::l) (b::bs)) 0=none:=by
       show(match Instr.sameNow u (kv k) (kv p.1) with|some true=>some (some (0,vv p.2)) | some false=>Instr.findNow u (kv k) (Xc kv vv l bs) (0+1) | none=>none)=_;rw[hk]
      rw[this];dsimp only;rw[Zqz K k (p::l) (b::bs) 0 hb];simp
 ·rw[ZAA hk k l bs 0 hb];simp only[G4];rfl
omit [DecidableEq κ] in
theorem ZpO{l l2:U (κ×ν)}{bs b2:U Nat}(hb:bs.length=l.length):Xc kv vv (l++l2) (bs++b2)=Xc kv vv l bs++Xc kv vv l2 b2:=by
 unfold Xc;rw[List.zipWith_append hb.symm]
omit [DecidableEq κ] in
theorem ZyO{l:U (κ×ν)}{bs:U Nat}{j:Nat}{p:κ×ν}{b:Nat}(h1:l[j]? =some p)(h2:bs[j]? =some b):(Xc kv vv l bs)[j]? =some ⟨kv p.1,vv p.2,b⟩:=by
 unfold Xc;rw[List.getElem?_zipWith,h1,h2]
omit [DecidableEq κ] in
theorem ZpN{l:U (κ×ν)}{bs:U Nat}(f:Vb->Vb)(g:κ×ν->κ×ν)(hfg:∀p b,f ⟨kv p.1,vv p.2,b⟩=⟨kv (g p).1,vv (g p).2,b⟩)(j:Nat):(Xc kv vv l bs).modify j f=Xc kv vv (l.modify j g) bs:=by
 induction l generalizing bs j with
 | nil=>simp[Xc]
 | cons p l ih=>
   cases bs with
   | nil=>simp[Xc]
   | cons b bs=>
     cases j with
     | zero=>simp only[Xc,List.zipWith_cons_cons,List.modify_zero_cons,hfg]
     | succ j=>simp only[Xc,List.zipWith_cons_cons,List.modify_succ_cons];congr 1;exact ih j
omit [DecidableEq κ] in
theorem Zsv{l:U (κ×ν)}{bs:U Nat}(hb:bs.length=l.length)(j:Nat):(Xc kv vv l bs).eraseIdx j=Xc kv vv (l.eraseIdx j) (bs.eraseIdx j):=by
 induction l generalizing bs j with
 | nil=>simp[Xc]
 | cons p l ih=>
   cases bs with
   | nil=>cases hb
   | cons b bs=>
     cases j with
     | zero=>simp only[Xc,List.zipWith_cons_cons,List.eraseIdx_zero,List.tail_cons]
     | succ j=>simp only[Xc,List.zipWith_cons_cons,List.eraseIdx_cons_succ];congr 1;exact ih (by simpa using hb) j
structure MapAt(kv:κ->Value)(vv:ν->Value)(h:H)(m:Option Nat)(l:List (κ×ν)):Prop where
 mem:(m=none/\l=[])\/∃i bs Y6,m=some i/\h.at i=.map (Xc kv vv l bs) Y6/\bs.length=l.length/\bs.Nodup/\∀b∈bs,b<Y6
structure ZlK(kv:κ->Value)(vv:ν->Value)(wm:Nat)(h:H)(m:Option Nat)(l:List (κ×ν)):Prop where
 at_:MapAt kv vv h m l
 low:∀i,m=some i->i<wm
structure ZcX(kv:κ->Value)(vv:ν->Value)(lo:Nat)(h:H)(m:Option Nat)(l:List (κ×ν)):Prop where
 at_:MapAt kv vv h m l
 low:∀i,m=some i->lo<=i
variable{wm lo:Nat}{h h':H}{m:O Nat}{l:U (κ×ν)}
theorem map_lt{i:Nat}{es:U Vb}{c:Nat}(e:h.at i=.map es c):i<h.size:=YH e rfl
omit [DecidableEq κ] in
theorem MapAt.lt(s:MapAt kv vv h m l){i:Nat}(e:m=some i):i<h.size:=by
 rcases s.mem with⟨q,_⟩|⟨j,bs,Y6,q,h1,_⟩
 ·rw[q]at e;cases e
 ·rw[q]at e;cases e;exact map_lt h1
omit [DecidableEq κ] in
theorem MapAt.keep(s:MapAt kv vv h m l)(k:∀i,m=some i->h'.at i=h.at i):MapAt kv vv h' m l:=
 ⟨s.mem.imp id fun⟨i,bs,Y6,q,h1,h2⟩=>⟨i,bs,Y6,q,by rw[k i q];exact h1,h2⟩⟩
omit [DecidableEq κ] in
theorem ZlK.fz(s:ZlK kv vv wm h m l)(f:Fz wm h h'):ZlK kv vv wm h' m l:=⟨s.at_.keep fun i e=>f.low i (s.low i e) (s.at_.lt e),s.low⟩
omit [DecidableEq κ] in
theorem MapAt.all(s:MapAt kv vv h m l):ZlK kv vv h.size h m l:=⟨s,fun _ e=>s.lt e⟩
omit [DecidableEq κ] in
theorem ZcX.lower{lo':Nat}(hl:lo'<=lo)(s:ZcX kv vv lo h m l):ZcX kv vv lo' h m l:=⟨s.at_,fun i e=>KB hl (s.low i e)⟩
omit [DecidableEq κ] in
theorem ZcX.nil:ZcX kv vv lo h none ([]:U (κ×ν)):=⟨⟨.inl ⟨rfl,rfl⟩⟩,fun i e=>by cases e⟩
section
variable{ops:Va Oper}{ol:U Oper}{fr:Fr}{ds:U Vc}{ty:J}{p:String}{af:Va Edge}{g:O (Nat×Z)}{d:O Tmp}{vt:J}{ev:V6->O N}
omit [DecidableEq κ] in
theorem Zvt(s:MapAt kv vv h m l):∃bs c,ZbQ h (.map m)=some (Xc kv vv l bs,c)/\bs.length=l.length:=by
 rcases s.mem with⟨rfl,rfl⟩|⟨i,bs,Y6,rfl,h1,h2,_⟩
 ·exact⟨[],0,rfl,rfl⟩
 ·refine⟨bs,Y6,?_,h2⟩;unfold ZbQ;dsimp only;rw[h1]
theorem ZJX{t:J}{x y:V6}{k:κ}{z:ν}(K:ZcY X.P kt kv)(hu:X.P.underlying t=some (.map kt vt))(hz:YF X.P vt=some (vv z))(hx:ev x=some (.map m))(hy:ev y=some (kv k))(s:MapAt kv vv h m l):
 Xm X h ev ⟨d,.lookup t x y false,ty,p,af,g⟩=some (.val (vv ((Zq l k).getD z)),.none):=by
 obtain⟨bs,c,h1,h2⟩:=Zvt s;show(match ev x,ev y with|some m,some k=>vN (Ub X.P h t m k false) | _,_=>none)=_;rw[hx,hy];dsimp only
 have:Ub X.P h t (.map m) (kv k) false=some (vv ((Zq l k).getD z)):=by
  refine ZkO ?_;unfold WT;rw[hu,h1];dsimp only;rw[K.ok,Cq1,Zba K k l bs h2];unfold Zq;cases Z8 l k with
  | some q=>rfl
  | none=>
    show(match YF X.P vt with|some z=>some (bif false then Value.tuple #[z,.bool false] else z) | none=>none)=_;rw[hz];rfl
 rw[this];rfl
theorem ZoC{t:J}{x y:V6}{k:κ}{z:ν}(K:ZcY X.P kt kv)(hu:X.P.underlying t=some (.map kt vt))(hz:YF X.P vt=some (vv z))(hx:ev x=some (.map m))(hy:ev y=some (kv k))(s:MapAt kv vv h m l):
 Xm X h ev ⟨d,.lookup t x y true,ty,p,af,g⟩=some (.val (.tuple #[vv ((Zq l k).getD z),.bool (Zq l k).isSome]),.none):=by
 obtain⟨bs,c,h1,h2⟩:=Zvt s;show(match ev x,ev y with|some m,some k=>vN (Ub X.P h t m k true) | _,_=>none)=_;rw[hx,hy];dsimp only
 have:Ub X.P h t (.map m) (kv k) true=some (.tuple #[vv ((Zq l k).getD z),.bool (Zq l k).isSome]):=by
  refine ZkO ?_;unfold WT;rw[hu,h1];dsimp only;rw[K.ok,Cq1,Zba K k l bs h2];unfold Zq;cases Z8 l k with
  | some q=>rfl
  | none=>
    show(match YF X.P vt with|some z=>some (bif true then Value.tuple #[z,.bool false] else z) | none=>none)=_;rw[hz];rfl
 rw[this];rfl
theorem KA{t:J}{x y:V6}{k:κ}{z v:ν}{w:N}(K:ZcY X.P kt kv)(hu:X.P.underlying t=some (.map kt vt))(hz:YF X.P vt=some (vv z))(hx:ev x=some (.map m))(hy:ev y=some (kv k))(s:MapAt kv vv h m l)(hv:ZdL l k z=some v)(hw:vv v=w):
 Xm X h ev ⟨d,.lookup t x y false,ty,p,af,g⟩=some (.val w,.none):=by
 rw[ZJX K hu hz hx hy s,Oi0 hv,hw]
theorem ZBq{t:J}{x y:V6}{k:κ}{z:ν}{v:ν×Z}{w:N}(K:ZcY X.P kt kv)(hu:X.P.underlying t=some (.map kt vt))(hz:YF X.P vt=some (vv z))(hx:ev x=some (.map m))(hy:ev y=some (kv k))(s:MapAt kv vv h m l)(hv:Zyr l k z=some v)(hw:vv v.1=w):
 Xm X h ev ⟨d,.lookup t x y true,ty,p,af,g⟩=some (.val (.tuple #[w,.bool v.2]),.none):=by
 have:=Oi0 hv;subst this;rw[ZoC K hu hz hx hy s,hw]
theorem Ziw{i:Nat}{es es':U Vb}{c c':Nat}(hw:wm<=i)(h1:h.at i=.map es c):Eff.apply wm h (.upd i (.map es' c'))=some (h.put i (.map es' c')):=by
 show(bif Nat.ble wm i&&(h.at i).own then some (h.put i _) else none)=_;rw[h1,Nm0 hw];rfl
theorem Zm6{i:Nat}{es:U Vb}{c:Nat}{A:YD}(hl:lo<=i)(h1:h.at i=.map es c):Up lo (fun j=>some i=some j) h (h.put i A):=
 ⟨K1 _,fun j _ hn=>Xg (fun q=>hn (by rw[q])) A,fun j e=>by cases e;exact⟨hl,by rw[h1];rfl⟩⟩
theorem ZG4{fr:Fr}{t:TypeId}{x y z:Operand}{k:κ}{v:ν}(K:ZcY X.P kt kv)(hu:X.P.underlying t=some (.map kt vt))(hw:wm<=lo)(hx:Yo fr x=some (.map m))(hm:m.isSome=true)(hy:Yo fr y=some (kv k))(hz:Yo fr z=some (vv v))(s:ZcX kv vv lo h m l):
 ∃h',SU X wm ⟨d,.mapUpdate t x y z,ty,p,af,g⟩ fr h h' true/\Up lo (fun j=>m=some j) h h'/\ZcX kv vv lo h' m (Yk l k v):=by
 obtain⟨i,rfl⟩:=Option.isSome_iff_exists.1 hm;have hlo:=s.low i rfl;rcases s.at_.mem with⟨q,_⟩|⟨j,bs,Y6,q,h1,h2,h3,h4⟩
 ·cases q
 ·cases q
  have key:∀E,Xd X.P h t (.map (some i)) (kv k) (vv v)=some E->Xm X h (Yo fr) ⟨d,.mapUpdate t x y z,ty,p,af,g⟩=some (.skip,E):=fun E hE=>by
   show(match Yo fr x,Yo fr y,Yo fr z with|some m,some k,some x=>sE (Xd X.P h t m k x) | _,_,_=>none)=_;rw[hx,hy,hz];dsimp only;rw[hE];rfl
  have ham:ZbQ h (.map (some i))=some (Xc kv vv l bs,Y6):=by unfold ZbQ;dsimp only;rw[h1]
  cases e:Z8 l k with
  | some q=>
    have hq:=K6 e;have hql:q.1<bs.length:=by rw[h2];exact(Li0 hq).1
    have hbq:bs[q.1]? =some bs[q.1]:=List.getElem?_eq_getElem hql
    have hmod:(Xc kv vv l bs).modify q.1 (fun e=>{e with key:=kv k,val:=vv v})=Xc kv vv (l.modify q.1 fun p=>(p.1,v)) bs:=by
     have h5:(Xc kv vv l bs).modify q.1 (fun e=>{e with key:=kv k,val:=vv v})=Xc kv vv (l.modify q.1 fun _=>(k,v)) bs:=ZpN _ _ (fun p b=>rfl) _;rw[h5];congr 1;apply List.ext_getElem?;intro n;rw[List.getElem?_modify,List.getElem?_modify];by_cases hn:q.1=n
     ·subst hn;rw[hq];simp
     ·simp[hn]
    refine⟨_,⟨.upd i (.map (Xc kv vv (l.modify q.1 fun p=>(p.1,v)) bs) Y6),key _ ?_,Ziw (Nat.le_trans hw hlo) h1,fun z=>by cases z⟩,Zm6 hlo h1,⟨⟨.inr ⟨i,bs,Y6,rfl,?_,?_,h3,h4⟩⟩,s.low⟩⟩
    ·refine Zeb ?_;unfold XA;rw[hu,ham];dsimp only;rw[K.ok,Cq1,Zba K k l bs h2,e];dsimp only[Option.map_some];rw[ZyO hq hbq];dsimp only;rw[K.same,Cq1,hmod]
    ·rw[Z4 (map_lt h1)];unfold Yk;rw[e]
    ·unfold Yk;rw[e];simpa using h2
  | none=>
    refine⟨_,⟨.upd i (.map (Xc kv vv (l++[(k,v)]) (bs++[Y6])) (Y6+1)),key _ ?_,Ziw (Nat.le_trans hw hlo) h1,fun z=>by cases z⟩,Zm6 hlo h1,⟨⟨.inr ⟨i,bs++[Y6],Y6+1,rfl,?_,?_,?_,?_⟩⟩,s.low⟩⟩
    ·refine Zeb ?_;unfold XA;rw[hu,ham];dsimp only;rw[K.ok,Cq1,Zba K k l bs h2,e,ZpO h2];rfl
    ·rw[Z4 (map_lt h1)];unfold Yk;rw[e]
    ·unfold Yk;rw[e];simp[h2]
    ·rw[List.nodup_append];exact⟨h3,by simp,fun a ha b hb=>by simp at hb;subst hb;exact Nat.ne_of_lt (h4 a ha)⟩
    ·intro b hb;rw[List.mem_append]at hb;rcases hb with hb|hb
     ·have:=h4 b hb;omega
     ·simp at hb;omega
theorem ZJE{fr:Fr}{ts:Array TypeId}{t:TypeId}{rest:List TypeId}{x y:Operand}{k:κ}(K:ZcY X.P kt kv)(hts:ts.toList=t::rest)(hu:X.P.underlying t=some (.map kt vt))(hw:wm<=lo)(hx:Yo fr x=some (.map m))(hm:m.isSome=true)(hy:Yo fr y=some (kv k))(s:ZcX kv vv lo h m l):
 ∃h',SV X wm ⟨d,.call {callee:=.builtin .delete,args:=#[x,y],argTypes:=ts},ty,p,af,g⟩ fr h (.tuple #[]) h' true/\Up lo (fun j=>m=some j) h h'/\ZcX kv vv lo h' m (Zer l k):=by
 obtain⟨i,rfl⟩:=Option.isSome_iff_exists.1 hm;have hlo:=s.low i rfl;rcases s.at_.mem with⟨q,_⟩|⟨j,bs,Y6,q,h1,h2,h3,h4⟩
 ·cases q
 ·cases q
  have key:∀E,ZdA X.P h t (.map (some i)) (kv k)=some E->Xm X h (Yo fr) ⟨d,.call {callee:=.builtin .delete,args:=#[x,y],argTypes:=ts},ty,p,af,g⟩=some (.val (.tuple #[]),E):=fun E hE=>by
   rw[Uy];have:evs (Yo fr) (#[x,y]:Array Operand).toList=some [.map (some i),kv k]:=Zb hx (Zb hy Zd);rw[this];show J7 X.P h .delete ts ty [.map (some i),kv k]=_;unfold J7;dsimp only;rw[hts];dsimp only;rw[hE]
  have ham:ZbQ h (.map (some i))=some (Xc kv vv l bs,Y6):=by unfold ZbQ;dsimp only;rw[h1]
  cases e:Z8 l k with
  | some q=>
    have hql:q.1<l.length:=(Li0 (K6 e)).1;refine⟨_,⟨.upd i (.map (Xc kv vv (l.eraseIdx q.1) (bs.eraseIdx q.1)) Y6),key _ ?_,Ziw (Nat.le_trans hw hlo) h1,fun z=>by cases z⟩,Zm6 hlo h1,⟨⟨.inr ⟨i,bs.eraseIdx q.1,Y6,rfl,?_,?_,?_,?_⟩⟩,s.low⟩⟩
    ·unfold ZdA;rw[hu,ham];dsimp only;rw[K.ok,Cq1,Zba K k l bs h2,e];dsimp only[Option.map_some];rw[Zsv h2]
    ·rw[Z4 (map_lt h1)];unfold Zer;rw[e]
    ·unfold Zer;rw[e];simp[List.length_eraseIdx,h2,hql]
    ·exact h3.sublist (List.eraseIdx_sublist ..)
    ·exact fun b hb=>h4 b ((List.eraseIdx_sublist ..).subset hb)
  | none=>
    refine⟨_,⟨.upd i (.map (Xc kv vv l bs) Y6),key _ ?_,Ziw (Nat.le_trans hw hlo) h1,fun z=>by cases z⟩,Zm6 hlo h1,⟨⟨.inr ⟨i,bs,Y6,rfl,?_,?_,h3,h4⟩⟩,s.low⟩⟩
    ·unfold ZdA;rw[hu,ham];dsimp only;rw[K.ok,Cq1,Zba K k l bs h2,e];rfl
    ·rw[Z4 (map_lt h1)];unfold Zer;rw[e]
    ·unfold Zer;rw[e];exact h2
end
end
section
variable{P:V7}
def ZJG{e:Z}{t:J}{v:N}{d:Nat}(hu:P.underlying t=some .string):Zr P (Instr.checkKey e (d+1) t v)=some (.ok ()):=by
 unfold Instr.checkKey;rw[prb (Yx hu)];rfl
end
section
variable{X:Ctx}{n wm lo:Nat}{Q:XX->Fs->Prop}{fr:Fr}{ds:U Vc}{h:H}
structure BdK(n lo l:Nat)(fr:Fr)(ps:Array Tmp)(Yf bd:Code)(df:Nat)(R:H->Prop)(e:XX)(s:Fs):Prop where
 out:e=.normal/\s.h.at l=.loop .busy none fr n ps Yf bd df/\∀h',(lo<=l->Up lo (fun i=>i=l) s.h h')->h'.at l=.loop .ready none fr n ps Yf bd df->R h'
structure AsK(X:Ctx)(n wm lo l:Nat)(fr:Fr)(ps:Array Tmp)(Yf bd:Code)(df:Nat)(R:H->Prop)(e:XX)(s:Fs):Prop where
 out:e=.normal/\s.h.at l=.loop .ready none fr n ps Yf bd df/\∀h1,(lo<=l->Up lo (fun i=>i=l) s.h h1)->h1.at l=.loop .busy none fr n ps Yf bd df->WC X n wm (some l) bd ⟨s.fr,s.ds,h1,s.wr⟩ (BdK n lo l fr ps Yf bd df R)
def BdK.mk'{l:Nat}{fr Qp:Fr}{ps:Va Tmp}{Yf bd:Code}{df:Nat}{R:H->Prop}(h1:h.at l=.loop .busy none fr n ps Yf bd df)(k:∀h',(lo<=l->Up lo (fun i=>i=l) h h')->h'.at l=.loop .ready none fr n ps Yf bd df->R h'):BdK n lo l fr ps Yf bd df R .normal ⟨Qp,ds,h,none⟩:=⟨⟨rfl,h1,k⟩⟩
def AsK.mk'{l:Nat}{fr Qp:Fr}{ps:Va Tmp}{Yf bd:Code}{df:Nat}{R:H->Prop}(h1:h.at l=.loop .ready none fr n ps Yf bd df)(k:∀h1,(lo<=l->Up lo (fun i=>i=l) h h1)->h1.at l=.loop .busy none fr n ps Yf bd df->WC X n wm (some l) bd ⟨Qp,ds,h1,none⟩ (BdK n lo l fr ps Yf bd df R)):AsK X n wm lo l fr ps Yf bd df R .normal ⟨Qp,ds,h,none⟩:=⟨⟨rfl,h1,k⟩⟩
def ZrD(X:Ctx)(l:Nat)(args:Va N)(wm:Nat)(h:H)(R:Z->H->Prop):Prop:=∃b h',R b h'/\Yq X (.round l args wm h) (.fin (.ret (.bool b)) h')
def ZrD.mk'{l:Nat}{args:U N}{fr WY:Fr}{ps:Va Tmp}{Yf bd:Code}{df:Nat}{R:H->Prop}(lo:Nat)(hat:h.at l=.loop .ready none fr n ps Yf bd df)(hw:wm<=l)(hl:Nat.beq args.length ps.toList.length=true)(hs:XJ (ps.toList.zip args) n fr=some WY)
 (k:WC X n wm (some l) Yf ⟨WY,[],h,none⟩ (AsK X n wm lo l fr ps Yf bd df R)):ZrD X l args.toArray wm h (fun b h'=>b=true/\R h'):=by
 obtain⟨e1,s1,⟨rfl,h1,k1⟩,j1⟩:=k;have o1:(s1.h.at l).own=true:=by rw[h1];rfl
 have s1l:=YH h1 rfl;obtain⟨e2,s2,⟨rfl,h2,k2⟩,j2⟩:=k1 (s1.h.put l (.loop .busy none fr n ps Yf bd df)) (fun hl=>Up.put hl o1) (Z4 s1l _);have o2:(s2.h.at l).own=true:=by rw[h2];rfl
 refine⟨true,s2.h.put l (.loop .ready none fr n ps Yf bd df),⟨rfl,k2 _ (fun hl=>Up.put hl o2) (Z4 (YH h2 rfl) _)⟩,?_⟩
 classical
 let ih:Qn->O YP:=fun j=>if j=.code Yf n wm (some l) ⟨WY,[],h,none⟩ then some (.code .normal s1) else QK (.code bd n wm (some l) {s1 with h:=s1.h.put l (.loop .busy none fr n ps Yf bd df)}) (.code .normal s2) j
 have HI:∀j r,ih j=some r->Yq X j r:=by
  intro j r e;dsimp only[ih]at e;split at e
  ·rename_i hj;cases e;rw[hj];exact j1
  ·exact Y9 (X:=X) j2 j r e
 refine WA (C:=cfg X fun _=>false) (ih:=ih) HI ?_;unfold Zbx;rw[hat];have hl':Nat.beq args.toArray.toList.length ps.toList.length=true:=hl;dsimp only;rw[Nm0 hw,hl'];simp only[Bool.and_self,Cq1];have hs':XJ (ps.toList.zip args.toArray.toList) n fr=some WY:=hs;rw[hs'];dsimp only;have i1:ih (.code Yf n wm (some l) {fr:=WY,ds:=[],h:=h})=some (.code .normal s1):=by dsimp only[ih];rw[if_pos rfl]
 rw[i1];show UQ ih l bd n wm .normal s1=_;unfold UQ;dsimp only;rw[h1];dsimp only
 have i2:ih (.code bd n wm (some l) {s1 with h:=s1.h.put l (.loop .busy none fr n ps Yf bd df)})=some (.code .normal s2):=by
  dsimp only[ih];split
  ·rename_i hj;exfalso;injection hj with _ _ _ _ hs
   have:({s1 with h:=s1.h.put l (.loop .busy none fr n ps Yf bd df)}:Fs).h.at l=h.at l:=by rw[hs]
   dsimp only at this;rw[Z4 s1l,hat]at this;cases this
  ·exact Xa _ _
 rw[i2];show QE l .normal s2=_;unfold QE;rw[h2]
section
variable{ops:Va Oper}{ol:U Oper}{d:Nat}{ty:J}{p:String}{af:Va Edge}{g:O (Nat×Z)}{rd:O Nat}
def WO.round{l:Nat}{args:Va N}{E:Eff}{v:N}{h1 h2:H}{op:Op}(hg:ZP ops ⟨some d,op,ty,p,af,g⟩ fr)(hd:Nat.blt d n=true)(ha:Xm X h (Yo fr) ⟨some d,op,ty,p,af,g⟩=some (.round l args,E))(hE:E.apply wm h=some h1)
 (hc:Yq X (.round l args wm h1) (.fin (.ret v) h2)) (k:WO X n wm rd ops ol ⟨Tr.set fr d v,ds,h2,none⟩ Q):WO X n wm rd ops (⟨some d,op,ty,p,af,g⟩::ol) ⟨fr,ds,h,none⟩ Q:=by
 have hd':Zky n (some d)=true:=hd;refine WO.cons (Y9 hc) (s1:=⟨Tr.set fr d v,ds,h2,none⟩) ?_ k;unfold JS;rw[hg.1,hg.2];dsimp only[QP,Cq0,Cq1];rw[ha];dsimp only[QP,Cq0,Cq1];rw[hE];unfold Kn;dsimp only[Jz,Cq0];rw[Xa];dsimp only;rw[Zf9 hd']
 rfl
def WO.yld{l:Nat}{fo:V6}{xs:Va V6}{ts:Va J}{vs:U N}{R:Z->H->Prop}{st:LoopState}{pd:O Code}{fr':Fr}{n':Nat}{ps:Va Tmp}{Yf bd:Code}{df:Nat}
 (hg:ZP ops ⟨some d,.call {callee:=.value fo,args:=xs,argTypes:=ts},ty,p,af,g⟩ fr) (hd:Nat.blt d n=true) (hf:Yo fr fo=some (.func (.yield l) #[] #[])) (hx:evs (Yo fr) xs.toList=some vs)
 (hat:h.at l=.loop st pd fr' n' ps Yf bd df) (hl:vs.length=ps.toList.length) (hr:ZrD X l vs.toArray wm h R) (k:∀b h',R b h'->WO X n wm rd ops ol ⟨Tr.set fr d (.bool b),ds,h',none⟩ Q):
 WO X n wm rd ops (⟨some d,.call {callee:=.value fo,args:=xs,argTypes:=ts},ty,p,af,g⟩::ol) ⟨fr,ds,h,none⟩ Q:=by
 obtain⟨b,h',hR,hj⟩:=hr;refine WO.round (E:=.none) hg hd ?_ rfl hj (k b h' hR);rw[Zdz,hx];dsimp only;rw[hf];dsimp only;unfold Uz;dsimp only;rw[hat];dsimp only;rw[hl,V4];rfl
def WO.ZjU{o:Oper}{c:Z}(_:Zk ops o fr c)(h1:c=true->WO X n wm rd ops (o::ol) ⟨fr,ds,h,none⟩ Q)(h2:c=false->WO X n wm rd ops (o::ol) ⟨fr,ds,h,none⟩ Q):WO X n wm rd ops (o::ol) ⟨fr,ds,h,none⟩ Q:=by
 cases c
 ·exact h2 rfl
 ·exact h1 rfl
def Zk.on{o:Oper}{c:Z}(hg:Zk ops o fr c)(hc:c=true):ZP ops o fr:=⟨hg.1,hg.2.trans hc⟩
def Zk.off{o:Oper}{c:Z}(hg:Zk ops o fr c)(hc:c=false):Zgk ops o fr:=⟨hg.1,hg.2.trans hc⟩
end
structure ZI(X:Ctx)(fn:Func)(wm:Nat)(Q:U4->H->Prop)(e:XX)(s:Fs):Prop where
 out:∃pm E h',xPM e=some pm/\Q E h'/\Yq X (.leave fn wm pm s) (.fin E h')
def WF.ZJt{f:V8}{fn:Func}{c:Code}{args:Va N}{Q:U4->H->Prop}(hf:X.fns.get f=some fn)(hb:fn.body=some c)(hn:args.toList.length<=fn.ntmps)
 (k:WC X fn.ntmps wm none c {fr:=X0 args.toList 0 .nil,ds:=[],h:=h} (ZI X fn wm Q)):WF X f args wm h Q:=by
 obtain⟨e,s',⟨pm,E,h',hpm,hq,hj⟩,ka⟩:=k;refine⟨E,h',hq,?_⟩;intro ρ args' w Zt hr hv
 have hi:Inv ρ fn.ntmps {fr:=X0 args.toList 0 .nil,ds:=[],h:=h} {tmps:=args'++Array.replicate (fn.ntmps-args'.size) undef,defers:=[]} w:=
  ⟨hr,Wy hv hn,.nil⟩
 refine callsIn_of_wp_marks (X.ok f fn hf).1 hb (ZgS hf) (wpIn_mono (ka ρ _ w base Zt hi rfl) ?_);rintro e' a' w' ⟨ρ',he,hi',hst⟩;cases he with
 | normal=>cases hpm;exact hj ρ' _ a' .returning w' _ (KB Zt hst.size) hi' .ret (fun _ _ hp=>UX.trans hr.lt hst hp)
 | ret=>cases hpm;exact hj ρ' _ a' .returning w' _ (KB Zt hst.size) hi' .ret (fun _ _ hp=>UX.trans hr.lt hst hp)
 | panic hv'=>cases hpm;exact hj ρ' _ a' _ w' _ (KB Zt hst.size) hi' (.ZX hv') (fun _ _ hp=>UX.trans hr.lt hst hp)
 | exit id=>cases hpm
 | goto l=>cases hpm
def WF.Qb{f:V8}{fn:Func}{c:Code}{args:U N}{n:Nat}{R:U4->H->Prop}(hf:X.fns.get f=some fn)(hb:fn.body=some c)(hnt:fn.ntmps=n)(hn:args.length<=n)
 (k:WC X n wm none c ⟨X0 args 0 .nil,[],h,none⟩ (ZI X fn wm R)):WF X f args.toArray wm h R:=by
 subst hnt;exact WF.ZJt hf hb hn k
def Zwj{fn:Func}{v:N}{wr:O Nat}(hv:QJ X.P fn fr h=some v):Yq X (.leave fn wm .ret ⟨fr,[],h,wr⟩) (.fin (.ret v) h):=by
 refine Jh (C:=cfg X fun _=>false) (ih:=fun _=>none) (fun _ _ h=>by cases h) ?_;have hv':QJ (cfg X fun _=>false).X.P fn fr h=some v:=hv;unfold Ua;simp only[hv']
def Zl8{fn:Func}{pm:PM}{r:Nat}{wr:O Nat}{E:U4}{h':H}(hat:h.at r=.deferred)(hw:wm<=r)(hj:Yq X (.leave fn wm pm ⟨fr,ds,h.put r .dead,wr⟩) (.fin E h')):Yq X (.leave fn wm pm ⟨fr,⟨.collected r,#[]⟩::ds,h,wr⟩) (.fin E h'):=by
 refine Jh (C:=cfg X fun _=>false) (ih:=QK (.leave fn wm pm ⟨fr,ds,h.put r .dead,wr⟩) (.fin E h')) (Y9 hj) ?_;unfold Ua;dsimp only;rw[hat];dsimp only;rw[Nm0 hw,Cq1];exact Xa _ _
def ZI.gen{fn:Func}{R:N->H->Prop}{rs:U ResultVar}{vs:U N}{v:N}(hr:fn.results.toList=rs)(hv:ZcK X.P fr h rs=some vs)(hl:(match vs with | [v]=>v|vs=>.tuple vs.toArray)=v)(k:R v h):ZI X fn wm (fun e h'=>∃v,e=.ret v/\R v h') .ret ⟨fr,[],h,none⟩:=by
 refine⟨⟨.ret,.ret v,h,rfl,⟨v,rfl,k⟩,Zwj ?_⟩⟩;unfold QJ;rw[hr,hv,<-hl]
 match vs with
 | []=>rfl
 | [_]=>rfl
 | _::_::_=>rfl
def ZI.col{fn:Func}{R:U4->H->Prop}{r:Nat}(lo:Nat)(hlo:lo<=r)(hat:h.at r=.deferred)(hw:wm<=r)(k:∀h',Up lo (fun i=>i=r) h h'->ZI X fn wm R .ret ⟨fr,ds,h',none⟩):ZI X fn wm R .ret ⟨fr,⟨.collected r,#[]⟩::ds,h,none⟩:=by
 have hu:Up lo (fun i=>i=r) h (h.put r .dead):=Up.put hlo (by rw[hat];rfl);obtain⟨pm,E,h',hpm,hq,hj⟩:=(k _ hu).out;cases hpm;exact⟨⟨.ret,E,h',rfl,hq,Zl8 hat hw hj⟩⟩
def ZI.YG{fn:Func}{R:U4->H->Prop}{s:Fs}(k:ZI X fn wm R .ret s):ZI X fn wm R .normal s:=by
 obtain⟨pm,E,h',hpm,hq⟩:=k.out;cases hpm;exact⟨⟨.ret,E,h',rfl,hq⟩⟩
section
variable{ops:Va Oper}{ol:U Oper}{d:Nat}{ty:J}{p:String}{af:Va Edge}{g:O (Nat×Z)}{rd:O Nat}{mm:Nat}{sf:SfT}{QQ:Fr->H->Prop}{κ ν:Type}[DecidableEq κ]{kt vt:J}{kv:κ->N}{vv:ν->N}{m:O Nat}{l:U (κ×ν)}
end
def WO.Zen{ops:Va Oper}{ol:U Oper}{d:Nat}{op:Op}{ty:J}{p:String}{af:Va Edge}{g:O (Nat×Z)}{rd:O Nat}{c:Z}(hg:Zk ops ⟨some d,op,ty,p,af,g⟩ fr c)(hc:c=false)(hd:Nat.blt d n=true)(k:WO X n wm rd ops ol ⟨Tr.set fr d undef,ds,h,none⟩ Q):
 WO X n wm rd ops (⟨some d,op,ty,p,af,g⟩::ol) ⟨fr,ds,h,none⟩ Q:=WO.o (hg.off hc) hd k
def Wq{ev:V6->O N}{d:O Tmp}{ty:J}{p:String}{af:Va Edge}{g:O (Nat×Z)}{f:V8}{xs:Va V6}{vs:U N}(hx:evs ev xs.toList=some vs):Xm X h ev ⟨d,.makeFunc (.func f) #[] xs,ty,p,af,g⟩=some (.val (.func (.func f) #[] vs.toArray),.none):=by
 show(bif ZnF (.func f) then none else match evs ev [],evs ev xs.toList with|some vs,some us=>some (AN.val (.func (.func f) vs.toArray us.toArray),Eff.none) | _,_=>none)=_;rw[hx];rfl
section
variable{ops:Va Oper}{ol:U Oper}{d:Nat}{ty:J}{p:String}{af:Va Edge}{g:O (Nat×Z)}{rd:O Nat}{mm:Nat}{sf:SfT}{QQ:Fr->H->Prop}{κ ν:Type}[DecidableEq κ]{kt vt:J}{kv:κ->N}{vv:ν->N}{m:O Nat}{l:U (κ×ν)}
end
end
section
def Zso{h:H}{i:Nat}(e:(h.at i).own=true):i<h.size:=by
 rcases Gk i h.size with z|z
 ·exact z
 ·rw[H.Za8 z]at e;cases e
structure Ast(wm:Nat) where
 P:H->Prop
 fp:Nat->Prop
 loc:∀{h h':H},Fz wm h h'->(∀i,fp i->h'.at i=h.at i)->P h->P h'
 own:∀{h:H}{i:Nat},P h->fp i->wm<=i/\(h.at i).own=true
def Dj{wm:Nat}(A B:Ast wm):Prop:=∀i,A.fp i->B.fp i->False
def Dj.symm{wm:Nat}{A B:Ast wm}(h:Dj A B):Dj B A:=fun i a b=>h i b a
structure Z7{wm:Nat}(G:List (Ast wm))(h:H):Prop where
 all:∀A∈G,A.P h
 dis:G.Pairwise Dj
def Qm{wm:Nat}(G:U (Ast wm))(i:Nat):Prop:=∃A∈G,A.fp i
structure Sp(wm:Nat)(T:Nat->Prop)(h0:H)(G:List (Ast wm))(h:H):Prop where
 wl:wm<=h0.size
 fz:Fz wm h0 h
 keep:∀i,i<h0.size->¬ T i->h.at i=h0.at i
 hold:Z7 G h
 inn:∀i,Qm G i->T i\/h0.size<=i
inductive Pk{α:Type}:List α->α->List α->Prop
 | z {A:α} {G:List α}:Pk (A::G) A G
 | s {A B:α} {G G':List α}:Pk G A G'->Pk (B::G) A (B::G')
def Pk.perm{α:Type}{G G':U α}{A:α}(p:Pk G A G'):G.Perm (A::G'):=by
 induction p with
 | z=>exact List.Perm.refl _
 | s _ ih=>exact(List.Perm.cons _ ih).trans (List.Perm.swap _ _ _)
def Pk.mem{α:Type}{G G':U α}{A:α}(p:Pk G A G'):A∈G:=p.perm.mem_iff.2 (by simp)
inductive Sel{α:Type}:List α->List α->List α->Prop
 | n {G:List α}:Sel G [] G
 | c {A:α} {G G1 Ga Gr:List α}:Pk G A G1->Sel G1 Ga Gr->Sel G (A::Ga) Gr
def Sel.perm{α:Type}{G Ga Gr:U α}(p:Sel G Ga Gr):G.Perm (Ga++Gr):=by
 induction p with
 | n=>exact List.Perm.refl _
 | c p _ ih=>exact p.perm.trans (List.Perm.cons _ ih)
section
variable{wm:Nat}{G Ga Gb Gr:U (Ast wm)}{h h' h0:H}{T t:Nat->Prop}{A B:Ast wm}
def Z7.perm(p:G.Perm Ga)(s:Z7 G h):Z7 Ga h:=⟨fun A m=>s.all A (p.mem_iff.2 m),(p.pairwise_iff (fun h=>Dj.symm h)).1 s.dis⟩
def Z7.left(s:Z7 (Ga++Gr) h):Z7 Ga h:=⟨fun A m=>s.all A (Q1.2 (.inl m)),(List.pairwise_append.1 s.dis).1⟩
def Z7.right(s:Z7 (Ga++Gr) h):Z7 Gr h:=⟨fun A m=>s.all A (Q1.2 (.inr m)),(List.pairwise_append.1 s.dis).2.1⟩
def Z7.nil:Z7 ([]:U (Ast wm)) h:=⟨fun _ m=>by simp at m,.nil⟩
def Z7.one(a:A.P h):Z7 [A] h:=⟨fun _ m=>by rw[Q2.1 m];exact a,List.pairwise_singleton _ _⟩
def Qm.perm(p:G.Perm Ga){i:Nat}(s:Qm G i):Qm Ga i:=let⟨A,m,f⟩:=s;⟨A,p.mem_iff.1 m,f⟩
def Z7.own(s:Z7 G h){i:Nat}(f:Qm G i):wm<=i/\(h.at i).own=true:=let⟨A,m,f⟩:=f;A.own (s.all A m) f
def Sp.perm(p:G.Perm Ga)(s:Sp wm T h0 G h):Sp wm T h0 Ga h:=⟨s.wl,s.fz,s.keep,s.hold.perm p,fun i f=>s.inn i (f.perm p.symm)⟩
def Sp.size(s:Sp wm T h0 G h):h0.size<=h.size:=s.fz.size
def Sp.hw(s:Sp wm T h0 G h):wm<=h.size:=KB s.wl s.fz.size
def Sp.Vm{g:H}(s:Sp wm T h0 G h)(e:g.size=h.size):wm<=g.size:=by rw[e];exact s.hw
def Sp.start(hw:wm<=h.size)(s:Z7 G h):Sp wm (Qm G) h G h:=⟨hw,Fz.refl _ _,fun _ _ _=>rfl,s,fun _ f=>.inl f⟩
def Sp.step(s:Sp wm T h0 (Ga++Gr) h)(u:Up wm t h h')(ht:∀i,t i->Qm Ga i)(hb:Z7 Gb h')(hf:∀i,Qm Gb i->Qm Ga i\/h.size<=i):Sp wm T h0 (Gb++Gr) h':=by
 have hd:=(List.pairwise_append.1 s.hold.dis).2.2;have hsep:∀i,Qm Ga i->Qm Gr i->False:=fun i ⟨A,m,f⟩ ⟨B,m',f'⟩=>hd A m B m' i f f'
 have hr:=s.hold.right;refine⟨s.wl,s.fz.trans (u.fz Vh),fun i hi hn=>?_,⟨fun A m=>?_,?_⟩,fun i f=>?_⟩
 ·have hnt:¬ t i:=fun q=>by
   rcases s.inn i (by obtain⟨A,m,f⟩:=ht i q;exact⟨A,Q1.2 (.inl m),f⟩) with z|z
   ·exact hn z
   ·omega
  rw[u.keep i (G0 hi s.size) hnt,s.keep i hi hn]
 ·rcases Q1.1 m with m|m
  ·exact hb.all A m
  ·exact A.loc (u.fz Vh) (fun i f=>u.keep i (Zso (A.own (hr.all A m) f).2) (fun q=>hsep i (ht i q) ⟨A,m,f⟩)) (hr.all A m)
 ·refine List.pairwise_append.2 ⟨hb.dis,hr.dis,fun B m A m' i f f'=>?_⟩;rcases hf i ⟨B,m,f⟩ with z|z
  ·exact hsep i z ⟨A,m',f'⟩
  ·exact absurd (Zso (A.own (hr.all A m') f').2) (Nat.not_lt_of_le z)
 ·obtain⟨A,m,f⟩:=f;rcases Q1.1 m with m|m
  ·rcases hf i ⟨A,m,f⟩ with⟨B,m',f'⟩|z
   ·exact s.inn i ⟨B,Q1.2 (.inl m'),f'⟩
   ·exact .inr (KB s.size z)
  ·exact s.inn i ⟨A,Q1.2 (.inr m),f⟩
def Sp.new(s:Sp wm T h0 Gr h)(u:Up wm (fun _=>False) h h')(hb:B.P h')(hf:∀i,B.fp i->h.size<=i):Sp wm T h0 (B::Gr) h':=
 Sp.step (Ga:=[]) (Gb:=[B]) s u (fun _ z=>z.elim) (Z7.one hb) fun i ⟨A,m,f⟩=>by rw[Q2.1 m]at f;exact .inr (hf i f)
def Sp.up(s:Sp wm T h0 Gr h)(u:Up wm (fun _=>False) h h'):Sp wm T h0 Gr h':=
 Sp.step (Ga:=[]) (Gb:=[]) s u (fun _ z=>z.elim) Z7.nil fun i ⟨A,m,f⟩=>by simp at m
def Sp.one(p:Pk G A Gr)(s:Sp wm T h0 G h)(u:Up wm t h h')(ht:∀i,t i->A.fp i)(hb:B.P h')(hf:∀i,B.fp i->A.fp i\/h.size<=i):Sp wm T h0 (B::Gr) h':=
 Sp.step (Ga:=[A]) (Gb:=[B]) (s.perm p.perm) u (fun i q=>⟨A,by simp,ht i q⟩) (Z7.one hb) fun i ⟨C,m,f⟩=>by
   rw[Q2.1 m]at f;exact(hf i f).imp (fun z=>⟨A,by simp,z⟩) id
def Sp.get(s:Sp wm T h0 G h)(p:Pk G A Gr):A.P h:=s.hold.all A p.mem
def Sp.drop(p:Pk G A Gr)(s:Sp wm T h0 G h):Sp wm T h0 Gr h:=by
 have s:=s.perm p.perm;exact⟨s.wl,s.fz,s.keep,Z7.right (Ga:=[A]) s.hold,fun i ⟨B,m,f⟩=>s.inn i ⟨B,by simp[m],f⟩⟩
def Sp.only(p:Sel G Ga Gr)(s:Sp wm T h0 G h):Sp wm T h0 Ga h:=by
 have s:=s.perm p.perm;exact⟨s.wl,s.fz,s.keep,s.hold.left,fun i ⟨B,m,f⟩=>s.inn i ⟨B,by simp[m],f⟩⟩
def Sp.add(s:Sp wm T h0 G h)(ha:A.P h)(hf:∀i,¬ A.fp i):Sp wm T h0 (A::G) h:=
 ⟨s.wl,s.fz,s.keep,⟨fun B m=>by rcases Kd.1 m with m|m;· rw[m];exact ha
                                ·exact s.hold.all B m,GW.2 ⟨fun B _ i f _=>hf i f,s.hold.dis⟩⟩,fun i ⟨B,m,f⟩=>by
   rcases Kd.1 m with m|m
   ·rw[m]at f;exact absurd f (hf i)
   ·exact s.inn i ⟨B,m,f⟩⟩
def Sp.say(s:Sp wm T h0 (Ga++Gr) h)(hb:Z7 Gb h)(hf:∀i,Qm Gb i->Qm Ga i):Sp wm T h0 (Gb++Gr) h:=
 Sp.step (t:=fun _=>False) s ⟨K1 _,fun _ _ _=>rfl,fun _ z=>z.elim⟩ (fun _ z=>z.elim) hb fun i f=>.inl (hf i f)
def Sp.call(p:Sel G Ga Gr)(s:Sp wm T h0 G h)(c:Sp wm (Qm Ga) h Gb h'):Sp wm T h0 (Gb++Gr) h':=by
 have s:=s.perm p.perm;exact Sp.step s ⟨c.size,c.keep,fun i f=>s.hold.left.own f⟩ (fun _ q=>q) c.hold c.inn
def Sp.Zbs(p:Sel G Ga Gr)(s:Sp wm T h0 G h):Z7 Ga h:=(s.hold.perm p.perm).left
end
def bx(wm b:Nat)(cs:U N):Ast wm where
 P:=fun h=>h.at b=.row cs true 0/\wm<=b
 fp:=fun i=>i=b
 loc:=fun _ k ⟨h1,h2⟩=>⟨by rw[k b rfl,h1],h2⟩
 own:=fun⟨h1,h2⟩ e=>by subst e;exact⟨h2,by rw[h1];rfl⟩
def ow{α:Type}(wm:Nat)(e:UD α)(a:O Addr)(n c:Nat)(xs:U α):Ast wm where
 P:=fun h=>n=xs.length/\Wx e wm wm h a c xs
 fp:=JU a
 loc:=fun f k ⟨h1,s⟩=>⟨h1,s.max,s.mem.imp id fun⟨i,o,cs,q1,q2,q3,q4,q5,q6⟩=>⟨i,o,cs,q1,q2,by rw[k i ⟨o,q1⟩,q3],q4,q5,q6.mono f⟩⟩
 own:=fun⟨_,s⟩ ⟨o,e⟩=>by
  rcases s.mem with⟨h1,_⟩|⟨i,o',cs,q1,q2,q3,_⟩
  ·rw[h1]at e;cases e
  ·rw[q1]at e;cases e;exact⟨q2,by rw[q3];rfl⟩
def mp{κ ν:Type}(wm:Nat)(kv:κ->N)(vv:ν->N)(m:O Nat)(l:U (κ×ν)):Ast wm where
 P:=fun h=>ZcX kv vv wm h m l
 fp:=fun i=>m=some i
 loc:=fun _ k s=>⟨s.at_.keep k,s.low⟩
 own:=fun{h i} s e=>⟨s.low i e,by
  rcases s.at_.mem with⟨q,_⟩|⟨j,bs,Y6,q,h1,_⟩
  ·rw[q]at e;cases e
  ·rw[q]at e;cases e;rw[h1];rfl⟩
def Ye{α:Type}(wm:Nat)(r:UD α)(p:r.Par)(x:α):Ast wm where
 P:=fun h=>r.F wm h p x
 fp:=fun _=>False
 loc:=fun f _ s=>r.mono f s
 own:=fun _ z=>z.elim
def ob(wm b:Nat)(A:YD):Ast wm where
 P:=fun h=>h.at b=A/\wm<=b/\A.own=true
 fp:=fun i=>i=b
 loc:=fun _ k ⟨h1,h2⟩=>⟨by rw[k b rfl,h1],h2⟩
 own:=fun⟨h1,h2,h3⟩ e=>by subst e;exact⟨h2,by rw[h1];exact h3⟩
section
variable{wm:Nat}{G Gr:U (Ast wm)}{h h0:H}{T:Nat->Prop}
def Sp.UC{b:Nat}{cs:U N}(s:Sp wm T h0 G h)(p:Pk G (bx wm b cs) Gr):At h b 0 cs:=At.box (s.get p).1
def Sp.Jk{α:Type}{e:UD α}{a:O Addr}{n c:Nat}{xs:U α}(s:Sp wm T h0 G h)(p:Pk G (ow wm e a n c xs) Gr):Src e wm h a c xs:=(s.get p).2.src
def Sp.ord{α:Type}{e:UD α}{a:O Addr}{n c:Nat}{xs:U α}(s:Sp wm T h0 G h)(p:Pk G (ow wm e a n c xs) Gr):Sl e h.size h a c xs:=(s.Jk p).sl s.hw
def Sp.on{α:Type}{e:UD α}{a:O Addr}{n c:Nat}{xs:U α}(s:Sp wm T h0 G h)(p:Pk G (ow wm e a n c xs) Gr):n=xs.length:=(s.get p).1
def Sp.mrd{κ ν:Type}{kv:κ->N}{vv:ν->N}{m:O Nat}{l:U (κ×ν)}(s:Sp wm T h0 G h)(p:Pk G (mp wm kv vv m l) Gr):ZlK kv vv h.size h m l:=MapAt.all (s.get p).at_
def Sp.sl{α:Type}{e:UD α}{a:O Addr}{c:Nat}{xs:U α}(s:Sp wm T h0 G h)(f:Sl e wm h0 a c xs):Sl e wm h a c xs:=f.mono s.fz
def Sp.slu{α:Type}{e:UD α}{a:O Addr}{c:Nat}{xs:U α}(s:Sp wm T h0 G h)(f:Sl e wm h0 a c xs):Sl e h.size h a c xs:=(f.mono s.fz).up s.hw
end
end
section
variable{X:Ctx}{n wm:Nat}{rd:O Nat}{ops:Va Oper}{l:U Oper}{fr:Fr}{ds:U Vc}{h h1 h2:H}{ty:J}{p:String}{af:Va Edge}{g:O (Nat×Z)}{m:Nat}
def VV(h h2:H)(xs:U Nat)(x:Nat):Prop:=(x<h.size/\x∈xs)\/h2.size<=x
structure ST where
 s:List (Nat×(Nat->Prop))
 m:List (Nat×(Nat->Prop))
 p:List (Nat×Nat×Nat×(YD->Prop))
def ST.nil:ST:=⟨[],[],[]⟩
structure ZO0(X:Ctx)(n wm:Nat)(rd:Option Nat)(ops:Array Oper)(o:Oper)(T:Nat->Prop)(xs:List Nat)(h:H)(fr:Fr)(v:Value)(h2:H):Prop where
 run:wm<=h.size->∃h1,h2=X6 xs h h1/\Qk X.P wm rd ops o T fr (mask xs h) v h1/\J8 T (mask xs h) h1
 wmT:∀x,T x->wm<=x
 dst:∀d,o.dst=some d->d<n
 hl:ZN o=true->(∀x,¬ T x)/\h2=h/\∀g,Qk X.P wm rd ops o (fun _=>False) fr g v g
 mx:∀x,T x->x<h.size->x∉xs
abbrev Cmp(ops:Va Oper)(i j:Nat):Prop:=comp (XL ops.toList 0 []) i j=true
abbrev PsT:=O (Nat×Nat×(YD->Prop))
structure WE(X:Ctx)(n wm:Nat)(rd:Option Nat)(ops:Array Oper)(sf:ST)(m:Nat)(h:H)(l:List Oper)(fr:Fr)(Q:Fr->H->Prop):Prop where
 out:∃(hs:Nat->H) (fs:Nat->Fr) (vs:Nat->Value) (Ts:Nat->Nat->Prop) (xs:Nat->List Nat) (ps:Nat->PsT),hs 0=h/\fs 0=fr/\Q (fs l.length) (hs l.length)/\∀k o,l[k]? =some o ->
  ZO0 X n wm rd ops o (Ts k) (xs k) (hs k) (fs k) (vs k) (hs (k+1))/\fs (k+1)=QI (fs k) o.dst (vs k)/\
  (∀x,Ts k x->x<(hs k).size->∀i o',i<m+k->ops.toList[i]? =some o'->Cmp ops i (m+k)\/ZN o'=true\/(∃V,(i,V)∈sf.s/\V x)\/(∃C,(i,x,m+k,C)∈sf.p/\C ((hs (k+1)).at x))\/
    ∃i',i=m+i'/\i'<k/\(VV (hs i') (hs (i'+1)) (xs i') x\/∃C,ps i'=some (x,m+k,C)/\C ((hs (k+1)).at x)))/\
  (ZN o=false->(∀q∈sf.m,Cmp ops q.1 (m+k)\/∀x,q.2 x->VV (hs k) (hs (k+1)) (xs k) x)/\∀i',i'<k->Cmp ops (m+i') (m+k)\/∀x,Ts i' x->x<(hs i').size->VV (hs k) (hs (k+1)) (xs k) x)/\
  (∀x j C,ps k=some (x,j,C)->xs k=[]/\(∀y,¬ Ts k y)/\hs (k+1)=hs k/\Prm X.P wm rd ops o (fs k) (hs k) (vs k) x C)
variable{sf:ST}{Q:Fr->H->Prop}
def WE.nil(k:Q fr h):WE X n wm rd ops sf m h [] fr Q:=⟨fun _=>h,fun _=>fr,fun _=>undef,fun _ _=>False,fun _=>[],fun _=>none,rfl,rfl,k,fun k o e=>by simp at e⟩
def WE.cons{o:Oper}{v:N}{T:Nat->Prop}{xs0:U Nat}(so to:U (Nat×(Nat->Prop)))(p0:PsT)(h1:ZO0 X n wm rd ops o T xs0 h fr v h2)
 (hso:∀q∈so,q.1=m/\∀x,q.2 x->VV h h2 xs0 x) (hto:∀x,T x->x<h.size->∃q∈to,q.1=m/\q.2 x)
 (c1:∀x,T x->x<h.size->∀i o',i<m->ops.toList[i]? =some o'->Cmp ops i m\/ZN o'=true\/(∃V,(i,V)∈sf.s/\V x)\/∃C,(i,x,m,C)∈sf.p/\C (h2.at x))
 (c2:ZN o=false->∀q∈sf.m,Cmp ops q.1 m\/∀x,q.2 x->VV h h2 xs0 x)
 (hp:∀x j C,p0=some (x,j,C)->xs0=[]/\(∀y,¬ T y)/\h2=h/\Prm X.P wm rd ops o fr h v x C)
 (k:WE X n wm rd ops ⟨so++sf.s,to++sf.m,(p0.map fun q=>(m,q.1,q.2.1,q.2.2)).toList++sf.p⟩ (m+1) h2 l (QI fr o.dst v) Q):WE X n wm rd ops sf m h (o::l) fr Q:=by
 obtain⟨gs,fs,vs,Ts,xs,ps,e0,e1,hq,hk⟩:=k;refine⟨fun k=>match k with|0=>h|k+1=>gs k,fun k=>match k with|0=>fr|k+1=>fs k,fun k=>match k with|0=>v|k+1=>vs k,fun k=>match k with|0=>T|k+1=>Ts k,fun k=>match k with|0=>xs0|k+1=>xs k,fun k=>match k with|0=>p0|k+1=>ps k,rfl,rfl,hq,fun k o' ho'=>?_⟩;cases k with
 | zero=>
   simp at ho';subst ho';dsimp only;rw[e0];refine⟨h1,e1,fun x tx hx i o' hi ho'=>?_,fun hh=>⟨c2 hh,fun i' hi'=>absurd hi' (Nat.not_lt_zero _)⟩,hp⟩;rcases c1 x tx hx i o' hi ho' with z|z|z|z
   ·exact .inl z
   ·exact .inr (.inl z)
   ·exact .inr (.inr (.inl z))
   ·exact .inr (.inr (.inr (.inl z)))
 | succ k=>
   obtain⟨k1,k2,k3,k4,k5⟩:=hk k o' (by simpa using ho');have e:m+1+k=m+(k+1):=Vg
   rw[e]at k3 k4;dsimp only;refine⟨k1,k2,fun x tx hx i o' hi ho'=>?_,fun hh=>⟨fun q hq=>(k4 hh).1 q (Q1.2 (.inr hq)),fun i' hi'=>?_⟩,k5⟩
   ·rcases k3 x tx hx i o' hi ho' with z|z|⟨V,z1,z2⟩|⟨C,z1,z2⟩|⟨i',q1,q2,q3⟩
    ·exact .inl z
    ·exact .inr (.inl z)
    ·rcases Q1.1 z1 with z1|z1
     ·obtain⟨w1,w2⟩:=hso _ z1;dsimp only at w1 w2;subst w1;refine .inr (.inr (.inr (.inr ⟨0,rfl,Nat.succ_pos _,.inl ?_⟩)));dsimp only;rw[e0];exact w2 x z2
     ·exact .inr (.inr (.inl ⟨V,z1,z2⟩))
    ·rcases Q1.1 z1 with z1|z1
     ·cases p0 with
      | none=>simp at z1
      | some q=>
        simp at z1;obtain⟨w1,w2,w3,w4⟩:=z1;subst w1;exact .inr (.inr (.inr (.inr ⟨0,rfl,Nat.succ_pos _,.inr ⟨C,by show some q=_;rw[w2,w3,w4],z2⟩⟩)))
     ·exact .inr (.inr (.inr (.inl ⟨C,z1,z2⟩)))
    ·exact .inr (.inr (.inr (.inr ⟨i'+1,by omega,by omega,q3⟩)))
   ·cases i' with
    | zero=>
      dsimp only;by_cases hc:Cmp ops (m+0) (m+(k+1))
      ·exact .inl hc
      ·refine .inr fun x tx hx=>?_
       obtain⟨q,q1,q2,q3⟩:=hto x tx hx;rcases(k4 hh).1 q (Q1.2 (.inl q1)) with z|z
       ·rw[q2]at z;exact absurd z hc
       ·exact z x q3
    | succ i'=>
      have:=(k4 hh).2 i' Vg;have e2:m+1+i'=m+(i'+1):=Vg
      rw[e2]at this;exact this
def WC.ZOi(hm:X.P.follows .mixedOrders=true){id:Nat}{R:XX->Fs->Prop}(hp:(plan ops.toList).isSome=true)(k:WE X n wm rd ops ST.nil 0 h ops.toList fr (fun fr' h'=>R .normal ⟨fr',ds,h',none⟩)):WC X n wm rd (.region id ops true) ⟨fr,ds,h,none⟩ R:=by
 obtain⟨gs,fs,vs,ts,xs,ps,e0,e1,hq,hk⟩:=k;obtain⟨ZG,hp⟩:=GJ.1 hp;refine⟨.normal,_,hq,fun ρ a w F Zt hi hF=>?_⟩;unfold plan Zue at hp;cases hall:(QH ZaK ops.toList 0&&QH (Zet ops.toList (XL ops.toList 0 [])) ops.toList 0&&QH (Zf0 ops.toList) ops.toList 0)<;>rw[hall]at hp<;>simp only[Cq1,Cq0]at hp
 ·cases hp
 rw[Ba0,Ba0]at hall;obtain⟨⟨Za2,Zcl⟩,hdst⟩:=hall;have Za2:=Yv _ _ Za2;have Zcl:=Yv _ _ Zcl;have hdst:=Yv _ _ hdst;have hget:∀{k:Nat}{o:Oper},ops[k]? =some o->ops.toList[k]? =some o:=fun h=>by rwa[G8]
 have hspec:=(Zcc ops.toList 0 [] rfl).2
 have hwk:∀k,k<=ops.size->wm<=(gs k).size:=by
  intro k
  induction k with
  | zero=>intro _;rw[e0];exact Zt
  | succ k ih=>
    intro hk';have hlt:k<ops.size:=Vg
    have ho:ops.toList[k]? =some ops[k]:=by simp[hlt]
    obtain⟨h1,q1,_,q3⟩:=(hk k _ ho).1.run (ih Vg);have q2:=q3.size;rw[Zp]at q2;have:=ih Vg;rw[q1,YR];omega
 have hlt:∀{k:Nat}{o:Oper},ops[k]? =some o->k<ops.size:=fun h=>(Jn.1 h).1
 have hco:∀{k:Nat}(hl:k<ops.size),ops.toList[k]? =some ops[k]:=fun hl=>by simp[hl]
 classical
 let sft:Nat->O (Nat×Nat):=fun i=>match ps i with
  | none=>none
  | some (x,j,C)=>if i<j/\j<ops.size/\ts j x/\C ((gs (j+1)).at x) then some (x,j) else none
 have Zya:∀i x j,sft i=some (x,j)->∃C,ps i=some (x,j,C)/\i<j/\j<ops.size/\ts j x/\C ((gs (j+1)).at x):=by
  intro i x j e;dsimp only[sft]at e;cases hp:ps i with
  | none=>rw[hp]at e;cases e
  | some q=>
    obtain⟨y,j',C⟩:=q;rw[hp]at e;dsimp only at e;split at e
    ·rename_i hh;cases e;exact⟨C,rfl,hh⟩
    ·cases e
 let D:Data X.P n wm rd ops:= {
  hs:=gs,fs:=fs,vs:=vs,mo:=ts,Xs:=xs,soft:=sft,hl:=fun i=>hlAt ops.toList i,Pb:=fun j k=>bit ((XL ops.toList 0 []).getD j 0) k=true
  ZlS:=hwk 0 (Gv _)
  step:=fun k o ho=>by
   obtain⟨h1,q1,q2,q3⟩:=(hk k o (hget ho)).1.run (hwk _ (GR (hlt ho)));exact⟨h1,q2,q3,q1,(hk k o (hget ho)).2.1⟩
  wmM:=fun k x hkl hx=>(hk k _ (hco hkl)).1.wmT x hx
  dst:=fun k o d ho hd=>(hk k o (hget ho)).1.dst d hd
  Zdb:=fun j k hb=>by
   obtain⟨o,ho,e,he,hb,hk⟩:=hspec j k (Gv _) hb;exact⟨o,e,by rw[<-G8];simpa using ho,by simpa using he,hb,hk⟩
  Zmz:=fun j o e ho he hb=>by
   have:=Za2 j o (hget ho);unfold ZaK at this;rw[Kx]at this;have:=this e (by simpa using he);rw[hb]at this
   simpa[G6]using this
  inc:=fun i j hil hjl hij h1 h2 hhl x hx hxs=>by
   have nc:¬ Cmp ops i j:=fun q=>by
    rcases ZaD q with y|y
    ·exact h1 y
    ·exact h2 y
   have hh:ZN ops[i]=false:=by
    have:hlAt ops.toList i=false:=hhl;unfold hlAt at this;rw[hco hil]at this;exact this
   rcases Gk i j with hlt'|hge
   ·have:=(hk j _ (hco hjl)).2.2.1 x hx hxs i _ Vg (hco hil);rw[G4]at this;rcases this with q|q|⟨V,q,_⟩|⟨C,q,_⟩|⟨i',q1,q2,q3⟩
    ·exact absurd q nc
    ·rw[hh]at q;cases q
    ·simp[ST.nil]at q
    ·simp[ST.nil]at q
    ·rw[G4]at q1;subst q1;rcases q3 with q3|⟨C,q3,q4⟩
     ·exact q3.imp (fun z=>⟨z.1,.inl z.2⟩) (fun z=>z)
     ·left;have hpr:=(hk i _ (hco hil)).2.2.2.2 x j C q3;refine⟨hpr.2.2.2.1,.inr ?_⟩;dsimp only[sft];rw[q3];dsimp only;rw[if_pos ⟨q2,hjl,hx,q4⟩]
   ·have:=((hk i _ (hco hil)).2.2.2.1 hh).2 j Vg;rw[G4,G4]at this;rcases this with q|q
    ·exact absurd (by unfold Cmp;rw[ZA9 hij];exact q) nc
    ·exact(q x hx hxs).imp (fun z=>⟨z.1,.inl z.2⟩) (fun z=>z)
  ZDE:=fun i o ho hh=>by
   have hq:ZN o=true:=by unfold hlAt at hh;rw[hget ho]at hh;exact hh
   obtain⟨z1,z2,z3⟩:=(hk i o (hget ho)).1.hl hq;exact⟨z1,by rw[z2],z3⟩
  Zne:=fun i o x j ho hh=>by
   obtain⟨C,s1,s2,s3,s4,s5⟩:=Zya i x j hh;obtain⟨z0,z1,z2,z3,z4,z5,z6⟩:=(hk i o (hget ho)).2.2.2.2 x j C s1;obtain⟨w1,w2⟩:=z6 _ s5;exact⟨s2,s3,z3,z1,by rw[z2],z4,w1,by rw[z0];exact z5,by rw[z0];exact w2⟩
  MX:=fun i x hil hx hxs=>(hk i _ (hco hil)).1.mx x hx hxs
  looks:=fun i o t ho ht k o' ho' hd=>by
   have:=Zcl i o (hget ho);unfold Zet at this;rw[Kx]at this;have:=Yv _ _ (this t ht) k o' (hget ho');rw[Zax.2 hd]at this;simp only[Cq1,GL,G4]at this;rcases this with z|z
   ·exact .inl (Nb0 z)
   ·exact .inr (ZaD z)
  ZA2:=fun i j o o' t ho ho' hd hd'=>by
   have:=hdst i o (hget ho);unfold Zf0 at this;rw[hd]at this;have:=Yv _ _ this j o' (hget ho');rw[Zax.2 hd']at this;simp only[Cq1,G4]at this;exact(Nb0 this).symm}
 have hi2:Inv ρ n {fr:=D.fs 0,ds:=ds,h:=D.hs 0} a w:=⟨by show Rel ρ (gs 0) w;rw[e0];exact hi.rel,by show FrR ρ (fs 0) n a.tmps;rw[e1];exact hi.fr,hi.ds⟩
 have:=D.region hm hi2 hF id;have hlen:ops.toList.length=ops.size:=by simp
 rw[hlen];refine wpIn_mono this fun e' a' w' ⟨ρ',q1,q2,q3⟩=>⟨ρ',q1,⟨q2.rel,q2.fr,q2.ds⟩,?_⟩
 have e0':D.hs 0=h:=e0;rw[e0']at q3;exact q3
end
section
variable{X:Ctx}{n wm:Nat}{rd:O Nat}{ops:Va Oper}{l:U Oper}{fr:Fr}{ds:U Vc}{h h1 h2 h0:H}{ty:J}{p:String}{af:Va Edge}{g:O (Nat×Z)}{m:Nat}
def ZbY{d:O Tmp}{op:Op}{v:N}{E:Eff}(hg:ZP ops ⟨d,op,ty,p,af,g⟩ fr)(ha:Xm X h (Yo fr) ⟨d,op,ty,p,af,g⟩=some (.val v,E)\/Xm X h (Yo fr) ⟨d,op,ty,p,af,g⟩=some (.skip,E)/\v=undef)(hE:E.apply wm h=some h1):
 Qk X.P wm rd ops ⟨d,op,ty,p,af,g⟩ (fun x=>E.tgt=some x) fr h v h1/\(wm<=h.size->J8 (fun x=>E.tgt=some x) h h1)/\(wm<=h.size->∀x,E.tgt=some x->wm<=x):=by
 have hds:Jt X (fun _=>true) (fun _=>none) ((d.getD 0)+1) wm none false ops.toList ⟨d,op,ty,p,af,g⟩ fr h=some (E.tgt,v,h1):=by
  unfold Jt;dsimp only;rw[hg.1,hg.2];cases d with
  | none=>
    rcases ha with ha|⟨ha,rfl⟩
    ·rw[ha];dsimp only[QP,Cq0,Cq1];rw[hE];rfl
    ·rw[ha];dsimp only[QP,Cq0,Cq1];rw[hE];rfl
  | some d'=>
    have:Nat.blt d' (d'+1)=true:=by rw[G6];omega
    have e2:(Nat.blt d' ((some d').getD 0+1)&&allowed none d')=true:=by dsimp only[Option.getD];rw[this];rfl
    dsimp only at e2 ⊢;rw[e2];rcases ha with ha|⟨ha,rfl⟩
    ·rw[ha];dsimp only[QP,Cq0,Cq1];rw[hE];rfl
    ·rw[ha];dsimp only[QP,Cq0,Cq1];rw[hE];rfl
 have e1:MOf false wm E.tgt=fun x=>E.tgt=some x:=ZO1 wm E.tgt
 refine⟨?_,fun hw=>?_,fun hw x hx=>?_⟩
 ·rw[<-e1];exact JI (Zar X) Zdd hds
 ·rw[<-e1];exact(Xw Zdd hds hw).1
 ·exact(Xw Zdd hds hw).2.1 x (by rw[e1];exact hx)
def ZmE{o:Oper}{f:V8}{args:Va N}{KP:Nat}{v:N}(hg:ZP ops o fr)(ha:Xm X h (Yo fr) o=some (.enter f args,.none))(hl:KP<=h.size)(hj:Yq X (.call f args KP h) (.fin (.ret v) h2)):
 Qk X.P wm rd ops o (fun x=>KP<=x/\(h.at x).own=true) fr h v h2:=by
 intro ρ a w F K Q r Zt hf hF hK;rw[ZcG ops o hf hg.1,hg.2,if_pos rfl];obtain⟨ev2,e1,e2⟩:=ZhO ops o hf ha;obtain⟨ρ1,w1,p1,p2,p3⟩:=Za9 r e1 e2;have hE:Eff.apply wm h .none=some h:=rfl;obtain⟨r1,st1⟩:=Eff.sound r Zt p1 hE p2;obtain⟨sm,km,Zzh⟩:=Eff.ZK4 r Zt p1 hE p2;refine⟨fun f hab=>(Zab hF f).2 (ZbE ha p3 hab),?_⟩
 have ZjH:o.semAt F.round a.eval=execOp a.eval o:=by
  cases hrd:rd with
  | none=>rw[hrd]at hF;unfold KO at hF;subst hF;rfl
  | some l=>
    refine Oper.semAt_eq _ _ _ fun c hc=>?_
    obtain⟨d,h1⟩:=Zhj ha hc;simp at h1
 rw[ZjH];have ZDI:F.depth.isSome=true->1<=0:=fun hh=>by rw[ZaA hF]at hh;cases hh
 have hF1:=hF.mono st1.ext;generalize hrun:(execOp a.eval o).run X.P w=res at p3;obtain⟨args',hva,rfl⟩:=p3;refine⟨ZDI,(QU hF1 (hj ρ1 args' w1 hl r1 hva)).mono ?_⟩;rintro e' w' ⟨ρ',he,hr,hst⟩;cases he with
 | @ret _ v' hv=>
   have st2:KE (fun x=>KP<=x/\(h.at x).own=true) ρ1 h w1 ρ' w':=hst.toM.ZlN (fun i _ h2 h3=>⟨h2,h3⟩) r1.lt;have toM:KE (fun x=>KP<=x/\(h.at x).own=true) ρ h w ρ1 w1:=sm.weaken (fun i _ hi=>by cases hi) r.lt;exact hK ρ' v' w' hv hr (toM.trans r.lt Vh (fun _ _ z=>z) st2)
structure WX(X:Ctx)(n wm:Nat)(rd:Option Nat)(ops:Array Oper)(sf:ST)(m:Nat)(h:H)(l:List Oper)(fr:Fr)(Q:Fr->H->Prop):Prop where
 out:(∀q∈sf.m,∀x,q.2 x->x<h.size)->WE X n wm rd ops sf m h l fr Q
variable{sf:ST}{Q:Fr->H->Prop}
def WC.JR(hm:X.P.follows .mixedOrders=true){id:Nat}{R:XX->Fs->Prop}(hp:(plan ops.toList).isSome=true)(k:WX X n wm rd ops ST.nil 0 h ops.toList fr (fun fr' h'=>R .normal ⟨fr',ds,h',none⟩)):WC X n wm rd (.region id ops true) ⟨fr,ds,h,none⟩ R:=
 WC.ZOi hm hp (k.out fun q hq=>by simp[ST.nil]at hq)
def WX.nil(k:Q fr h):WX X n wm rd ops sf m h [] fr Q:=⟨fun _=>WE.nil k⟩
def okM(ops:Va Oper)(sf:ST)(m:Nat)(o:Oper):Z:=(sf.m.all fun q=>comp (XL ops.toList 0 []) q.1 m)||ZN o
def K3{o:Oper}(h:okM ops sf m o=true):ZN o=false->∀q∈sf.m,Cmp ops q.1 m:=fun hh q hq=>by
 unfold okM at h;rw[hh,Bool.or_false,Kx]at h;exact h q hq
def okB(ops:Va Oper)(m:Nat)(is:U Nat):Z:=QH (fun i o=>Nat.ble m i||comp (XL ops.toList 0 []) i m||ZN o||is.any (Nat.beq i)) ops.toList 0
def ZpC{is:U Nat}(h:okB ops m is=true){i:Nat}{o:Oper}(hi:i<m)(ho:ops.toList[i]? =some o):Cmp ops i m\/ZN o=true\/i∈is:=by
 have:=Yv _ _ h i o ho;rw[G4,GL,GL,GL]at this;rcases this with((q|q) | q) | q
 ·have:=Nl0 q;omega
 ·exact .inl q
 ·exact .inr (.inl q)
 ·rw[GF]at q;obtain⟨y,q1,q2⟩:=q;have e:=Nb0 q2;subst e;exact .inr (.inr q1)
def WO.w{Q:XX->Fs->Prop}{d:Nat}{op:Op}{v:N}(hg:ZP ops ⟨some d,op,ty,p,af,g⟩ fr)(hd:Nat.blt d n=true)(ha:Xm X h (Yo fr) ⟨some d,op,ty,p,af,g⟩=some (.val v,.none))(k:WO X n wm rd ops l ⟨Tr.set fr d v,ds,h,none⟩ Q):
 WO X n wm rd ops (⟨some d,op,ty,p,af,g⟩::l) ⟨fr,ds,h,none⟩ Q:=WO.v hg hd ha rfl k
def Vi{Q:XX->Fs->Prop}{d:Nat}{op:Op}{v:Value}(ha:Xm X h (Yo fr) ⟨some d,op,ty,p,af,none⟩=some (.val v,.none))(k:WO X n wm rd ops l ⟨Tr.set fr d v,ds,h,none⟩ Q)(hd:Nat.blt d n=true:=by exact rfl):WO X n wm rd ops (⟨some d,op,ty,p,af,none⟩::l) ⟨fr,ds,h,none⟩ Q:=WO.w gN hd ha k
def WX.w{d:Nat}{op:Op}{v:N}(hg:ZP ops ⟨some d,op,ty,p,af,g⟩ fr)(hd:Nat.blt d n=true)(ha:Xm X h (Yo fr) ⟨some d,op,ty,p,af,g⟩=some (.val v,.none))(k:WX X n wm rd ops sf (m+1) h l (Tr.set fr d v) Q)(hM:okM ops sf m ⟨some d,op,ty,p,af,g⟩=true):
 WX X n wm rd ops sf m h (⟨some d,op,ty,p,af,g⟩::l) fr Q:=by
 refine⟨fun hb=>WE.cons (T:=fun _=>False) (xs0:=[]) (v:=v) [] [] none ?_ (fun _ z=>by simp at z) (fun _ z=>z.elim) (fun _ z=>z.elim) (fun hh q hq=>.inl (K3 hM hh q hq)) (fun x j C z=>by cases z) (k.out hb)⟩
 have hs:∀h',Xm X h' (Yo fr) ⟨some d,op,ty,p,af,g⟩=some (.val v,.none)->Qk X.P wm rd ops ⟨some d,op,ty,p,af,g⟩ (fun _=>False) fr h' v h':=fun h' ha'=>by
  have:=(ZbY (wm:=wm) (rd:=rd) hg (.inl ha') (h1:=h') rfl).1
  simpa[Eff.tgt]using this
 refine⟨fun hw=>⟨h,rfl,hs h ha,⟨K1 _,fun _ _ _=>rfl,fun _ _ z=>z,fun _ _ z=>z⟩⟩,fun _ z=>z.elim,fun d' e=>(by cases e;rwa[G6]at hd),fun hh=>⟨fun _ z=>z,rfl,fun g=>hs g ?_⟩,fun _ z=>z.elim⟩;rw[Zgc h g hh];exact ha
def Vl{d:Nat}{op:Op}{v:Value}(ha:Xm X h (Yo fr) ⟨some d,op,ty,p,af,none⟩=some (.val v,.none))(k:WX X n wm rd ops sf (m+1) h l (Tr.set fr d v) Q)(hd:Nat.blt d n=true:=by exact rfl)(hM:okM ops sf m ⟨some d,op,ty,p,af,none⟩=true:=by exact rfl):WX X n wm rd ops sf m h (⟨some d,op,ty,p,af,none⟩::l) fr Q:=WX.w gN hd ha k hM
def WX.off{d:Nat}{op:Op}(hg:Zgk ops ⟨some d,op,ty,p,af,g⟩ fr)(hd:Nat.blt d n=true)(k:WX X n wm rd ops sf (m+1) h l (Tr.set fr d undef) Q)(hM:okM ops sf m ⟨some d,op,ty,p,af,g⟩=true):
 WX X n wm rd ops sf m h (⟨some d,op,ty,p,af,g⟩::l) fr Q:=by
 refine⟨fun hb=>WE.cons (T:=fun _=>False) (xs0:=[]) (v:=undef) [] [] none ?_ (fun _ z=>by simp at z) (fun _ z=>z.elim) (fun _ z=>z.elim) (fun hh q hq=>.inl (K3 hM hh q hq)) (fun x j C z=>by cases z) (k.out hb)⟩
 have hs:∀h',Qk X.P wm rd ops ⟨some d,op,ty,p,af,g⟩ (fun _=>False) fr h' undef h':=fun h'=>by
  have hds:Jt X (fun _=>true) (fun _=>none) (d+1) wm none false ops.toList ⟨some d,op,ty,p,af,g⟩ fr h'=some (none,undef,h'):=by
   unfold Jt;dsimp only;have:Nat.blt d (d+1)=true:=by rw[G6];omega
   rw[this,hg.1,hg.2];rfl
  have:=JI (rd:=rd) (Zar X) Zdd hds
  rwa[ZBT]at this
 exact⟨fun hw=>⟨h,rfl,hs h,⟨K1 _,fun _ _ _=>rfl,fun _ _ z=>z,fun _ _ z=>z⟩⟩,fun _ z=>z.elim,fun d' e=>(by cases e;rwa[G6]at hd),fun hh=>⟨fun _ z=>z,rfl,fun g=>hs g⟩,fun _ z=>z.elim⟩
def WX.gv{d:Nat}{op:Op}{c:Z}{v:N}(hg:Zk ops ⟨some d,op,ty,p,af,g⟩ fr c)(hd:Nat.blt d n=true)(ha:c=true->Xm X h (Yo fr) ⟨some d,op,ty,p,af,g⟩=some (.val v,.none))(k:WX X n wm rd ops sf (m+1) h l (Tr.set fr d (cond c v undef)) Q)(hM:okM ops sf m ⟨some d,op,ty,p,af,g⟩=true):
 WX X n wm rd ops sf m h (⟨some d,op,ty,p,af,g⟩::l) fr Q:=by
 cases c
 ·exact WX.off hg hd k hM
 ·exact WX.w hg hd (ha rfl) k hM
open Classical in
def Xy (h:H) (R:Nat ->Prop):List Nat:= (List.range h.size).filter fun x=>decide (¬ R x)
def Zbo{h:H}{R:Nat->Prop}{x:Nat}:x∈Xy h R↔x<h.size/\¬ R x:=by unfold Xy;simp
def ZzA{R:Nat->Prop}{x:Nat}(hx:R x):(mask (Xy h R) h).at x=h.at x:=by rw[Xp,if_neg (fun z=>(Zbo.1 z).2 hx)]
def Up.hide(lo:Nat)(Y':U Nat)(h:H):Up lo (fun _=>False) h (X6 Y' h (mask Y' h)):=
 ⟨by rw[YR,Zp];exact K1 _,fun i hi _=>by
   rw[XZ _ _ _ (by rw[Zp];exact K1 _),Xp];by_cases hy:i∈Y'
   ·rw[if_pos ⟨hy,hi⟩]
   ·rw[if_neg (fun q=>hy q.1),if_neg hy],fun _ e=>e.elim⟩
def WX.wr{T0:Nat->Prop}{G:U (Ast wm)}{d:Nat}{op:Op}{v:N}(R:Nat->Prop)(hS:Sp wm T0 h0 G h)(hg:ZP ops ⟨some d,op,ty,p,af,g⟩ fr)(hd:Nat.blt d n=true)(ha:∀g':H,g'.size=h.size->(∀x,R x->g'.at x=h.at x)->Xm X g' (Yo fr) ⟨some d,op,ty,p,af,g⟩=some (.val v,.none))
 (k:∀h',h'.size=h.size->Sp wm T0 h0 G h'->WX X n wm rd ops ⟨(m,fun x=>¬ R x)::sf.s,sf.m,sf.p⟩ (m+1) h' l (Tr.set fr d v) Q) (hh:ZN ⟨some d,op,ty,p,af,g⟩=false) (hM:okM ops sf m ⟨some d,op,ty,p,af,g⟩=true):
 WX X n wm rd ops sf m h (⟨some d,op,ty,p,af,g⟩::l) fr Q:=by
 have hsz:(X6 (Xy h R) h (mask (Xy h R) h)).size=h.size:=by rw[YR,Zp]
 refine⟨fun hb=>WE.cons (T:=fun _=>False) (xs0:=Xy h R) (h2:=X6 (Xy h R) h (mask (Xy h R) h)) (v:=v) [(m,fun x=>¬ R x)] [] none ?_ (fun q hq=>?_) (fun _ z=>z.elim) (fun _ z=>z.elim) (fun hh q hq=>.inl (K3 hM hh q hq)) (fun x j C z=>by cases z) ((k _ hsz (hS.up (Up.hide wm _ h))).out fun q hq x hx=>by rw[hsz];exact hb q hq x hx)⟩
 ·have:=ZbY (wm:=wm) (rd:=rd) hg (.inl (ha _ (Zp _ _) fun x hx=>ZzA hx)) (h1:=mask (Xy h R) h) rfl;have t0:(fun x:Nat=>Eff.tgt Eff.none=some x)=fun _=>False:=by funext x;simp[Eff.tgt]
  rw[t0]at this;exact⟨fun hw=>⟨_,rfl,this.1,this.2.1 (by rw[Zp];exact hw)⟩,fun _ z=>z.elim,fun d' e=>(by cases e;rwa[G6]at hd),fun q=>Bool.noConfusion (hh.symm.trans q),fun _ z=>z.elim⟩
 ·rw[Q2.1 hq];refine⟨rfl,fun x hx=>?_⟩;rcases Gk x h.size with z|z
  ·exact .inl ⟨z,Zbo.2 ⟨z,hx⟩⟩
  ·exact .inr (by rw[hsz];exact z)
def HV(X:Ctx)(wm:Nat)(o:Oper)(fr:Fr)(h:H)(T:Nat->Prop)(K:N->H->Prop):Prop:=∃v E h1,Xm X h (Yo fr) o=some (.val v,E)/\E.apply wm h=some h1/\(∀x,E.tgt=some x->T x)/\h.size<=h1.size/\K v h1
def HU(X:Ctx)(wm:Nat)(o:Oper)(fr:Fr)(h:H)(T:Nat->Prop)(K:H->Prop):Prop:=∃E h1,Xm X h (Yo fr) o=some (.skip,E)/\E.apply wm h=some h1/\(∀x,E.tgt=some x->T x)/\h.size<=h1.size/\K h1
def WO.hv{Q:XX->Fs->Prop}{d:Nat}{op:Op}{T:Nat->Prop}{K:N->H->Prop}(hg:ZP ops ⟨some d,op,ty,p,af,g⟩ fr)(hd:Nat.blt d n=true)(s:HV X wm ⟨some d,op,ty,p,af,g⟩ fr h T K)(k:∀v h',K v h'->WO X n wm rd ops l ⟨Tr.set fr d v,ds,h',none⟩ Q):
 WO X n wm rd ops (⟨some d,op,ty,p,af,g⟩::l) ⟨fr,ds,h,none⟩ Q:=let⟨v,_,h1,ha,hE,_,_,hk⟩:=s;WO.v hg hd ha hE (k v h1 hk)
def WO.hu{Q:XX->Fs->Prop}{op:Op}{T:Nat->Prop}{K:H->Prop}(hg:ZP ops ⟨none,op,ty,p,af,g⟩ fr)(s:HU X wm ⟨none,op,ty,p,af,g⟩ fr h T K)(k:∀h',K h'->WO X n wm rd ops l ⟨fr,ds,h',none⟩ Q):
 WO X n wm rd ops (⟨none,op,ty,p,af,g⟩::l) ⟨fr,ds,h,none⟩ Q:=let⟨_,h1,ha,hE,_,_,hk⟩:=s;WO.u hg ha hE (k h1 hk)
def XI(sf:ST)(T:Nat->Prop)(is:U Nat):Prop:=∀i∈is,∃V,(i,V)∈sf.s/\∀x,T x->V x
def XI.e{T:Nat->Prop}:XI sf T []:=fun _ z=>by simp at z
inductive Zxo(i:Nat)(V:Nat->Prop):List (Nat×(Nat->Prop))->Prop
 | z {r:List (Nat×(Nat->Prop))}:Zxo i V ((i,V)::r)
 | s {q:Nat×(Nat->Prop)} {r:List (Nat×(Nat->Prop))}:Zxo i V r->Zxo i V (q::r)
def Zxo.mem{i:Nat}{V:Nat->Prop}{r:U (Nat×(Nat->Prop))}(h:Zxo i V r):(i,V)∈r:=by
 induction h with
 | z=>simp
 | s _ ih=>simp[ih]
def XI.c{T V:Nat->Prop}{i:Nat}{is:U Nat}(hm:Zxo i V sf.s)(hv:∀x,T x->V x)(b:XI sf T is):XI sf T (i::is):=fun j hj=>by
 rcases Kd.1 hj with z|z
 ·subst z;exact⟨V,hm.mem,hv⟩
 ·exact b j z
def Zzi{d:O Tmp}{op:Op}{v:N}{T:Nat->Prop}{E:Eff}(hg:ZP ops ⟨d,op,ty,p,af,g⟩ fr)(hd:∀d',d=some d'->d'<n)(ha:Xm X h (Yo fr) ⟨d,op,ty,p,af,g⟩=some (.val v,E)\/Xm X h (Yo fr) ⟨d,op,ty,p,af,g⟩=some (.skip,E)/\v=undef)(hE:E.apply wm h=some h1)(hT:∀x,E.tgt=some x->T x)(hsz:h.size<=h1.size)
 (k:WX X n wm rd ops ⟨sf.s,(m,fun x=>T x/\x<h.size)::sf.m,sf.p⟩ (m+1) h1 l (QI fr d v) Q) (hh:ZN ⟨d,op,ty,p,af,g⟩=false) (hM:okM ops sf m ⟨d,op,ty,p,af,g⟩=true) (is:U Nat) (hB:okB ops m is=true) (hi:XI sf T is):
 WX X n wm rd ops sf m h (⟨d,op,ty,p,af,g⟩::l) fr Q:=by
 refine⟨fun hb=>?_⟩;by_cases hw:wm<=h.size
 ·have hs:=ZbY (wm:=wm) (rd:=rd) hg ha hE
  refine WE.cons (T:=fun x=>E.tgt=some x) (xs0:=[]) (h2:=h1) (v:=v) [] [(m,fun x=>T x/\x<h.size)] none ⟨fun _=>⟨h1,rfl,hs.1,hs.2.1 hw⟩,hs.2.2 hw,hd,fun q=>Bool.noConfusion (hh.symm.trans q),fun _ _ _ z=>by simp at z⟩ (fun _ z=>by simp at z) (fun x hx hl=>⟨_,Q2.2 rfl,rfl,hT x hx,hl⟩)
   (fun x hx hl i o' hi' ho'=>?_) (fun hh q hq=>.inl (K3 hM hh q hq)) (fun x j C z=>by cases z) (k.out fun q hq x hx=>?_)
  ·rcases ZpC hB hi' ho' with z|z|z
   ·exact .inl z
   ·exact .inr (.inl z)
   ·obtain⟨V,q1,q2⟩:=hi i z;exact .inr (.inr (.inl ⟨V,q1,q2 x (hT x hx)⟩))
  ·rcases Kd.1 hq with z|z
   ·subst z;exact G0 hx.2 hsz
   ·exact G0 (hb q z x hx) hsz
 ·refine WE.cons (T:=fun _=>False) (xs0:=[]) (h2:=h1) (v:=v) [] [(m,fun x=>T x/\x<h.size)] none ⟨fun z=>absurd z hw,fun _ z=>z.elim,hd,fun q=>Bool.noConfusion (hh.symm.trans q),fun _ z=>z.elim⟩ (fun _ z=>by simp at z) (fun x hx hl=>hx.elim)
   (fun x hx=>hx.elim) (fun hh q hq=>.inl (K3 hM hh q hq)) (fun x j C z=>by cases z) (k.out fun q hq x hx=>?_)
  rcases Kd.1 hq with z|z
  ·subst z;exact G0 hx.2 hsz
  ·exact G0 (hb q z x hx) hsz
def WX.hv{d:Nat}{op:Op}{T:Nat->Prop}{K:N->H->Prop}(hg:ZP ops ⟨some d,op,ty,p,af,g⟩ fr)(hd:Nat.blt d n=true)(s:HV X wm ⟨some d,op,ty,p,af,g⟩ fr h T K)
 (k:∀v h',K v h'->WX X n wm rd ops ⟨sf.s,(m,fun x=>T x/\x<h.size)::sf.m,sf.p⟩ (m+1) h' l (Tr.set fr d v) Q) (hh:ZN ⟨some d,op,ty,p,af,g⟩=false) (hM:okM ops sf m ⟨some d,op,ty,p,af,g⟩=true) (is:U Nat) (hB:okB ops m is=true) (hi:XI sf T is):
 WX X n wm rd ops sf m h (⟨some d,op,ty,p,af,g⟩::l) fr Q:=
 let⟨v,_,h1,ha,hE,hT,hz,hk⟩:=s;Zzi hg (fun d' e=>by cases e;rwa[G6]at hd) (.inl ha) hE hT hz (k v h1 hk) hh hM is hB hi
def WX.hu{op:Op}{T:Nat->Prop}{K:H->Prop}(hg:ZP ops ⟨none,op,ty,p,af,g⟩ fr)(s:HU X wm ⟨none,op,ty,p,af,g⟩ fr h T K)
 (k:∀h',K h'->WX X n wm rd ops ⟨sf.s,(m,fun x=>T x/\x<h.size)::sf.m,sf.p⟩ (m+1) h' l fr Q) (hh:ZN ⟨none,op,ty,p,af,g⟩=false) (hM:okM ops sf m ⟨none,op,ty,p,af,g⟩=true) (is:U Nat) (hB:okB ops m is=true) (hi:XI sf T is):
 WX X n wm rd ops sf m h (⟨none,op,ty,p,af,g⟩::l) fr Q:=
 let⟨_,h1,ha,hE,hT,hz,hk⟩:=s;Zzi (v:=undef) hg (fun d' e=>by cases e) (.inr ⟨ha,rfl⟩) hE hT hz (k h1 hk) hh hM is hB hi
def Zom(h:H){A:YD}(hA:A.own=true):Eff.apply wm h (.new A)=some (h.push A):=by show(bif A.own then some (h.push A) else none)=_;rw[hA];rfl
def HN(X:Ctx)(wm:Nat)(o:Oper)(fr:Fr)(h:H)(K:N->H->Prop):Prop:=∃v A,A.own=true/\(∀g:H,g.size=h.size->Xm X g (Yo fr) o=some (.val v,.new A))/\∀h',Up wm (fun _=>False) h h'->h'.at h.size=A->h'.size=h.size+1->K v h'
def WO.hn{Q:XX->Fs->Prop}{d:Nat}{op:Op}{K:N->H->Prop}(hg:ZP ops ⟨some d,op,ty,p,af,g⟩ fr)(hd:Nat.blt d n=true)(s:HN X wm ⟨some d,op,ty,p,af,g⟩ fr h K)(k:∀v h',K v h'->WO X n wm rd ops l ⟨Tr.set fr d v,ds,h',none⟩ Q):
 WO X n wm rd ops (⟨some d,op,ty,p,af,g⟩::l) ⟨fr,ds,h,none⟩ Q:=let⟨v,A,hA,ha,hk⟩:=s;WO.v hg hd (ha h rfl) (Zom h hA) (k v _ (hk _ (Up.push wm h A) (QV h A) (by simp)))
def Vk{Q:XX->Fs->Prop}{d:Nat}{op:Op}{K:Value->H->Prop}(s:HN X wm ⟨some d,op,ty,p,af,none⟩ fr h K)(k:∀v h',K v h'->WO X n wm rd ops l ⟨Tr.set fr d v,ds,h',none⟩ Q)(hd:Nat.blt d n=true:=by exact rfl):WO X n wm rd ops (⟨some d,op,ty,p,af,none⟩::l) ⟨fr,ds,h,none⟩ Q:=WO.hn gN hd s k
def WX.hn{d:Nat}{op:Op}{K:N->H->Prop}(hg:ZP ops ⟨some d,op,ty,p,af,g⟩ fr)(hd:Nat.blt d n=true)(s:HN X wm ⟨some d,op,ty,p,af,g⟩ fr h K)(k:∀v h',K v h'->WX X n wm rd ops ⟨(m,fun x=>x≠h.size)::sf.s,sf.m,sf.p⟩ (m+1) h' l (Tr.set fr d v) Q)(hh:ZN ⟨some d,op,ty,p,af,g⟩=false):
 WX X n wm rd ops sf m h (⟨some d,op,ty,p,af,g⟩::l) fr Q:=by
 obtain⟨v,A,hA,ha,hk⟩:=s;have hmm:∀x,x∈Xy h (fun _=>False)↔x<h.size:=fun x=>by rw[Zbo];simp
 have hsz:(X6 (Xy h fun _=>False) h ((mask (Xy h fun _=>False) h).push A)).size=h.size+1:=by rw[YR,H.size_push,Zp]
 have hle:h.size<=((mask (Xy h fun _=>False) h).push A).size:=by rw[H.size_push,Zp];omega
 have hu:Up wm (fun _=>False) h (X6 (Xy h fun _=>False) h ((mask (Xy h fun _=>False) h).push A)):=
  ⟨by rw[hsz];omega,fun i hi _=>by rw[XZ _ _ _ hle,if_pos ⟨(hmm i).2 hi,hi⟩],fun _ e=>e.elim⟩
 have hat:(X6 (Xy h fun _=>False) h ((mask (Xy h fun _=>False) h).push A)).at h.size=A:=by
  rw[XZ _ _ _ hle,if_neg (fun q=>Nat.lt_irrefl _ q.2)];have:=QV (mask (Xy h fun _=>False) h) A
  rwa[Zp]at this
 refine⟨fun hb=>WE.cons (T:=fun _=>False) (xs0:=Xy h fun _=>False) (v:=v) [(m,fun x=>x≠h.size)] [] none ?_ (fun q hq=>?_) (fun _ z=>z.elim) (fun _ z=>z.elim) (fun _ q hq=>.inr fun x hx=>?_) (fun x j C z=>by cases z)
  ((k v _ (hk _ hu hat hsz)).out fun q hq x hx=>by rw[hsz];exact Nat.lt_succ_of_lt (hb q hq x hx))⟩
 ·have:=ZbY (wm:=wm) (rd:=rd) hg (.inl (ha _ (Zp _ _))) (h1:=(mask (Xy h fun _=>False) h).push A) (Zom _ hA);have t0:(fun x:Nat=>Eff.tgt (Eff.new A)=some x)=fun _=>False:=by funext x;simp[Eff.tgt]
  rw[t0]at this;exact⟨fun hw=>⟨_,rfl,this.1,this.2.1 (by rw[Zp];exact hw)⟩,fun _ z=>z.elim,fun d' e=>(by cases e;rwa[G6]at hd),fun q=>Bool.noConfusion (hh.symm.trans q),fun _ z=>z.elim⟩
 ·rw[Q2.1 hq];refine⟨rfl,fun x hx=>?_⟩;rcases Gk x h.size with z|z
  ·exact .inl ⟨z,(hmm x).2 z⟩
  ·right;rw[hsz];have:x≠h.size:=hx;omega
 ·exact .inl ⟨hb q hq x hx,(hmm x).2 (hb q hq x hx)⟩
end
section
variable{X:Ctx}{n wm:Nat}{rd:O Nat}{ops:Va Oper}{l:U Oper}{fr:Fr}{ds:U Vc}{h h1 h2 h0:H}{ty:J}{p:String}{af:Va Edge}{g:O (Nat×Z)}{m:Nat}{T:Nat->Prop}{G Gr Ga Gb:U (Ast wm)}{d:Nat}{sf:ST}
def Zi4{x:V6}{t:J}{v:N}{vs:U N}(hS:Sp wm T h0 G h)(hx:Yo fr x=some v)(hv:v.cells.toList=vs):
 HN X wm ⟨some d,.box t x,ty,p,af,g⟩ fr h (fun v h'=>∃b,h.size=b/\v=(Vf b)/\Sp wm T h0 (bx wm b vs::G) h'):=by
 subst hv;refine⟨(Vf h.size),.row v.cells.toList true 0,rfl,fun g' hz=>?_,fun h' u hat _=>⟨h.size,rfl,rfl,hS.new u ⟨hat,hS.hw⟩ fun i e=>Nat.le_of_eq e.symm⟩⟩;rw[ZEQ,hx];dsimp only;rw[<-hz];rfl
def Zhv{t:J}{v:N}{vs:U N}(hS:Sp wm T h0 G h)(hz:YF X.P t=some v)(hv:v.cells.toList=vs):
 HN X wm ⟨some d,.alloc t,ty,p,af,g⟩ fr h (fun v h'=>∃b,h.size=b/\v=(Vf b)/\Sp wm T h0 (bx wm b vs::G) h'):=by
 subst hv;refine⟨(Vf h.size),.row v.cells.toList true 0,rfl,fun g' hz'=>?_,fun h' u hat _=>⟨h.size,rfl,rfl,hS.new u ⟨hat,hS.hw⟩ fun i e=>Nat.le_of_eq e.symm⟩⟩;rw[Zw6,hz];dsimp only;rw[<-hz'];rfl
def Zb5{x y:V6}{t:J}{b o sz:Nat}{cs cs' vs:U N}{v:N}(hS:Sp wm T h0 G h)(pk:Pk G (bx wm b cs) Gr)(hs:Yu X.P t=some sz)(hx:Yo fr x=some (.pointer (some ⟨b,o,none⟩)))(hy:Yo fr y=some v)
 (hvs:v.cells.toList=vs) (hn:Nat.beq vs.length sz=true) (hl:Nat.ble (o+sz) cs.length=true) (hc:vs.all Value.oneCell'=true) (hv:splice cs o vs=cs'):
 HU X wm ⟨none,.store t x y,ty,p,af,g⟩ fr h (fun i=>i=b) (fun h'=>Sp wm T h0 (bx wm b cs'::Gr) h'):=by
 obtain⟨hr,hw⟩:=hS.get pk;obtain⟨e1,e2⟩:=ZFk (d:=none) (ty:=ty) (p:=p) (af:=af) (g:=g) hs hx hy hr hw hvs (Nb0 hn) (Nl0 hl) hc hv;refine⟨_,_,e1,e2,fun x hx=>?_,by simp,?_⟩
 ·simpa[Eff.tgt,eq_comm]using hx
 ·exact hS.one pk (Up.put hw (by rw[hr];rfl)) (fun i e=>e) ⟨Z4 (YH hr rfl) _,hw⟩ fun i e=>.inl e
def ZoD{x:V6}{t e':J}{a:O Addr}{mm cc:Nat}{k:Int}(hu:X.P.underlying t=some (.slice e'))(hx:Yo fr x=some (.slice a mm cc))(hk:(mm:Int)=k):
 Xm X h (Yo fr) ⟨some d,.call {callee:=.builtin .len,args:=#[x],argTypes:=#[t]},ty,p,af,g⟩=some (.val (Ve k),.none):=by subst hk;exact ZJZ hu hx
section
variable{α:Type}{e:UD α}
def Zal{t el:J}{mm:Nat}{ps:Va (Nat×V6)}{pvs:U (Nat×N)}{z:N}{zs:U N}{xs:U α}(hS:Sp wm T h0 G h)
 (hu:X.P.underlying t=some (.slice el)) (hs:Yu X.P el=some e.sz) (hz:YF X.P el=some z) (hzs:z.cells.toList=zs) (hzl:zs.length=e.sz) (hm:Nat.ble (mm*e.sz) 10000=true) (hp:evp (Yo fr) ps.toList=some pvs)
 (ho:Zj2 (fun i=>some (i*e.sz,e.sz)) (ZbU zs mm).length pvs=true) (qs:U (e.Par×α)) (hv:ZqA (fun i=>i*e.sz) (ZbU zs mm) pvs=qs.flatMap fun q=>e.sh q.1 q.2) (hq:qs.map (·.2)=xs) (hF:∀q∈qs,e.F wm h q.1 q.2) (hlen:Nat.beq mm xs.length=true):
 HN X wm ⟨some d,.buildSlice t mm ps,ty,p,af,g⟩ fr h (fun v h'=>∃b,h.size=b/\v=.slice (some ⟨b,0,none⟩) mm (2*mm)/\Sp wm T h0 (ow wm e (some ⟨b,0,none⟩) mm (2*mm) xs::G) h'):=by
 have hlen:=Nb0 hlen;subst hlen;have hm':=Nl0 hm;refine⟨.slice (some ⟨h.size,0,none⟩) xs.length (2*xs.length),.row (qs.flatMap fun q=>e.sh q.1 q.2) true e.sz,rfl,fun g' hz'=>?_,fun h' u hat _=>⟨h.size,rfl,rfl,hS.new u ⟨rfl,?_⟩ fun i ⟨o,e⟩=>by cases e;exact K1 _⟩⟩
 ·show(match evp (Yo fr) ps.toList with
   | some ps=>vE (Zrp X.P g' t xs.length ps)
   | none=>none)=_
  rw[hp];dsimp only;unfold Zrp;rw[hu];dsimp only;rw[hs,hz];dsimp only;rw[hzs,hzl];have b1:Nat.ble 1 e.sz=true:=Nm0 e.pos;rw[b1,hm,V4];simp only[Bool.and_self,Cq1];rw[Zrw (off:=fun i=>i*e.sz) (fun i p e=>by cases e;rfl) _ _ ho,hv,hz']
  rfl
 ·have hel:=QR.ZC4 (h:=h) (wm:=wm) qs hF;rw[hq]at hel;have hl2:=hel.len
  have hmax:xs.length<=9223372036854775807:=by
   have:xs.length*1<=xs.length*e.sz:=Nat.mul_le_mul_left _ e.pos;omega
  refine Wx.mk' hmax hS.hw hat Vg ?_ (hel.mono (u.fz Vh));have:2*xs.length / 2=xs.length:=Vg
  rw[this];omega
def ZEW{P:V7}{ts:Va J}{a:O Addr}{nn c:Nat}{y v:N}{E:Eff}{x0:Nat}(ha:Q9 P h ts (.slice a nn c) y=some (v,E))(ht:E.tgt=some x0):JU a x0:=by
 unfold Q9 at ha;cases hi:KC P ts with
 | none=>rw[hi]at ha;cases ha
 | some q=>
   obtain⟨q1,sz,KN,q4⟩:=q;rw[hi]at ha;dsimp only at ha;cases hr:reads h y sz with
   | none=>rw[hr]at ha;cases ha
   | some new=>
     rw[hr]at ha;dsimp only at ha;cases hb:Nat.ble (nn+QS y) (c / 2) with
     | true=>
       rw[hb,Cq1]at ha;cases hz:Nat.beq (QS y) 0 with
       | true=>rw[hz,Cq1]at ha;cases ha;cases ht
       | false=>
         rw[hz,Cq0]at ha;split at ha
         ·split at ha
          ·rw[Bool.cond_eq_ite]at ha;split at ha
           ·cases ha;cases ht;exact⟨_,rfl⟩
           ·cases ha
          ·cases ha
         ·cases ha
     | false=>
       rw[hb,Cq0]at ha;cases hq:(Nat.ble ((2*(nn+QS y)+1000)*KN) (2 ^ 47)&&new.all Value.oneCell') with
       | false=>rw[hq,Cq0]at ha;cases ha
       | true=>
         rw[hq,Cq1]at ha;split at ha
         ·cases hz:Nat.beq (c % 2) 0 with
          | true=>rw[hz,Cq1]at ha;cases ha;cases ht
          | false=>
            rw[hz,Cq0]at ha;split at ha
            ·split at ha
             ·rw[Bool.cond_eq_ite]at ha;split at ha
              ·cases ha;cases ht;exact⟨_,rfl⟩
              ·cases ha
             ·cases ha
            ·cases ha
         ·cases ha
def ZJ4{ts:Va J}{x y:V6}{a:O Addr}{nn c:Nat}{v w:N}{E:Eff}{x0:Nat}(hx:Yo fr x=some (.slice a nn c))(hy:Yo fr y=some w)(ha:Xm X h (Yo fr) ⟨some d,.call {callee:=.builtin .append,args:=#[x,y],argTypes:=ts},ty,p,af,g⟩=some (.val v,E))(ht:E.tgt=some x0):JU a x0:=by
 have hev:evs (Yo fr) [x,y]=some [.slice a nn c,w]:=Zb hx (Zb hy Zd);rw[Uy]at ha;have ZDH:evs (Yo fr) (#[x,y]:Va V6).toList=some [.slice a nn c,w]:=hev;rw[ZDH]at ha;replace ha:vE (Q9 X.P h ts (.slice a nn c) w)=some (.val v,E):=ha;cases hh:Q9 X.P h ts (.slice a nn c) w with
 | none=>rw[hh]at ha;cases ha
 | some q=>rw[hh]at ha;obtain⟨v',E'⟩:=q;cases ha;exact ZEW hh ht
def KX{ts:Va J}{x y:V6}{KN:Nat}{a a2:O Addr}{nn n2 c c2:Nat}{xs ys zs:U α}(hS:Sp wm T h0 G h)(pk:Pk G (ow wm e a nn c xs) Gr)(hi:Zgl X.P ts e.sz KN)(hx:Yo fr x=some (.slice a nn c))(hy:Yo fr y=some (.slice a2 n2 c2))(sr:Src e wm h a2 c2 ys)(hn:n2=ys.length)(ha:app KN xs ys=some zs):
 HV X wm ⟨some d,.call {callee:=.builtin .append,args:=#[x,y],argTypes:=ts},ty,p,af,g⟩ fr h (JU a) (fun v h'=>∃(a':O Addr) (c':Nat),v=.slice a' zs.length c'/\Sp wm T h0 (ow wm e a' zs.length c' zs::Gr) h'):=by
 obtain⟨h1,so⟩:=hS.get pk;subst h1 hn
 refine ZJ5 (K:=HV X wm ⟨some d,.call {callee:=.builtin .append,args:=#[x,y],argTypes:=ts},ty,p,af,g⟩ fr h (JU a) (fun v h'=>∃(a':O Addr) (c':Nat),v=.slice a' zs.length c'/\Sp wm T h0 (ow wm e a' zs.length c' zs::Gr) h'))
  (J':=fun v h'=>Up wm (JU a) h h'/\∃(a':O Addr) (c':Nat),v=.slice a' zs.length c'/\Sp wm T h0 (ow wm e a' zs.length c' zs::Gr) h') wm (fun v E h1 e1 e2 ⟨u,j⟩=>⟨v,E,h1,e1,e2,fun x0 hx0=>?_,u.size,j⟩) hi Vh hS.hw hx hy so sr ha
  (fun a' c' h' u so' hb=>⟨u,a',c',rfl,hS.one pk u (fun i q=>q) ⟨rfl,so'⟩ fun i q=>(hb i q).imp id fun z=>Nat.le_of_eq z.symm⟩)
 exact ZJ4 hx hy e1 hx0
end
end
section
variable{X:Ctx}{n wm:Nat}{rd:O Nat}{ops:Va Oper}{l:U Oper}{fr:Fr}{ds:U Vc}{h h1 h2 h0:H}{ty:J}{p:String}{af:Va Edge}{g:O (Nat×Z)}{m:Nat}{T:Nat->Prop}{G Gr Ga Gb:U (Ast wm)}{d:Nat}{sf:ST}
section
variable{P:V7}{t:J}{i x0:Nat}{k x:N}{E:Eff}
def ZBA(ha:XA P h t (.map (some i)) k x=some E)(ht:E.tgt=some x0):x0=i:=by
 unfold XA at ha;split at ha
 ·rename_i heq _;cases heq;rw[Bool.cond_eq_ite]at ha;split at ha
  ·split at ha
   ·split at ha
    ·rw[Bool.cond_eq_ite]at ha;split at ha
     ·cases ha;cases ht;rfl
     ·cases ha
    ·cases ha
   ·cases ha;cases ht;rfl
   ·cases ha
  ·cases ha
 ·cases ha
def ZEU{et:J}{f:Y->O Z}{s:Y}(ha:aks P h t (.map (some i)) k=some (et,x0,f,s)):x0=i:=by
 unfold aks at ha;split at ha
 ·rename_i q;cases q;split at ha
  ·rw[Bool.cond_eq_ite]at ha;split at ha<;>cases ha
   rfl
  ·cases ha
 ·cases ha
def ZET(ha:Xd P h t (.map (some i)) k x=some E)(ht:E.tgt=some x0):x0=i:=by
 unfold Xd at ha;split at ha
 ·rename_i h0;cases ha;exact ZBA h0 ht
 ·split at ha
  ·rename_i hs _;cases ha;cases ht;exact ZEU hs
  ·cases ha
end
section
variable{κ ν:Type}[DecidableEq κ]{kt vt:J}{kv:κ->N}{vv:ν->N}{i:Nat}{ll:U (κ×ν)}
theorem ZbG{t:J}(kv:κ->N)(vv:ν->N)(hS:Sp wm T h0 G h):
 HN X wm ⟨some d,.makeMap t none,ty,p,af,g⟩ fr h (fun v h'=>∃b,h.size=b/\v=.map (some b)/\Sp wm T h0 (mp wm kv vv (some b) []::G) h'):=
 ⟨.map (some h.size),.map [] 0,rfl,fun g' hz=>by rw[<-hz];rfl,fun h' u hat _=>⟨h.size,rfl,rfl,hS.new u ⟨⟨.inr ⟨h.size,[],0,rfl,hat,rfl,by simp,by simp⟩⟩,fun i e=>by cases e;exact hS.hw⟩ fun i e=>by cases e;exact K1 _⟩⟩
theorem Kj{t:J}{x y z:V6}{k:κ}{v:ν}(hS:Sp wm T h0 G h)(pk:Pk G (mp wm kv vv (some i) ll) Gr)(K:ZcY X.P kt kv)(hu:X.P.underlying t=some (.map kt vt))(hx:Yo fr x=some (.map (some i)))(hy:Yo fr y=some (kv k))(hz:Yo fr z=some (vv v)):
 HU X wm ⟨none,.mapUpdate t x y z,ty,p,af,g⟩ fr h (fun j=>j=i) (fun h'=>Sp wm T h0 (mp wm kv vv (some i) (Yk ll k v)::Gr) h'):=by
 obtain⟨h',⟨E,ha,hE,_⟩,u,ho⟩:=ZG4 (d:=none) (ty:=ty) (p:=p) (af:=af) (g:=g) K hu (K1 wm) hx rfl hy hz (hS.get pk);refine⟨E,h',ha,hE,fun x0 hx0=>?_,u.size,hS.one pk u (fun j e=>e) ho fun j e=>.inl e⟩;have ha':(match Yo fr x,Yo fr y,Yo fr z with|some m,some k,some x=>sE (Xd X.P h t m k x) | _,_,_=>none)=some (.skip,E):=ha;rw[hx,hy,hz]at ha';dsimp only at ha';cases hh:Xd X.P h t (.map (some i)) (kv k) (vv v) with
 | none=>rw[hh]at ha';cases ha'
 | some E'=>rw[hh]at ha';cases ha';exact ZET hh hx0
end
end
section
variable{X:Ctx}{n wm:Nat}{rd:O Nat}{ops:Va Oper}{l:U Oper}{fr:Fr}{ds:U Vc}{h h1 h2 h0:H}{ty:J}{p:String}{af:Va Edge}{g:O (Nat×Z)}{m:Nat}{T:Nat->Prop}{G Gr Ga Gb:U (Ast wm)}{d:Nat}{sf:ST}
def CP{wm:Nat}(K:N->U (Ast wm)->Prop)(Ga:U (Ast wm))(h:H):N->H->Prop:=fun v h'=>∃Gb,K v Gb/\Sp wm (Qm Ga) h Gb h'
def Yh(X:Ctx)(fr:Fr)(o:Oper)(f:V8)(args:Va N):Prop:=∀h:H,Xm X h (Yo fr) o=some (.enter f args,.none)
def Yh.fn{f:V8}{xs:Va V6}{ts:Va J}{vs:U N}{d:O Tmp}(hf:(X.fns.get f).isSome=true)(hx:evs (Yo fr) xs.toList=some vs):Yh X fr ⟨d,.call {callee:=.value (.func f),args:=xs,argTypes:=ts},ty,p,af,g⟩ f vs.toArray:=fun h=>by
 obtain⟨fn,hf⟩:=GJ.1 hf;rw[Zdz,hx];dsimp only;rw[Zrx];dsimp only;exact ZBG hf
def Yh.clo{f:V8}{fo:V6}{xs:Va V6}{ts:Va J}{vs first cap args:U N}{d:O Tmp}(hc:Yo fr fo=some (.func (.func f) first.toArray cap.toArray))(hf:(X.fns.get f).isSome=true)(hx:evs (Yo fr) xs.toList=some vs)(ha:first++vs++cap=args):
 Yh X fr ⟨d,.call {callee:=.value fo,args:=xs,argTypes:=ts},ty,p,af,g⟩ f args.toArray:=fun h=>by
 obtain⟨fn,hf⟩:=GJ.1 hf;subst ha;rw[Zdz,hx];dsimp only;rw[hc];dsimp only;unfold Uz;dsimp only;rw[hf]
def WO.en{Q:XX->Fs->Prop}{op:Op}{f:V8}{args:Va N}{v:N}{h2:H}(hg:ZP ops ⟨some d,op,ty,p,af,g⟩ fr)(hd:Nat.blt d n=true)(he:Yh X fr ⟨some d,op,ty,p,af,g⟩ f args)
 (hc:Yq X (.call f args wm h) (.fin (.ret v) h2)) (k:WO X n wm rd ops l ⟨Tr.set fr d v,ds,h2,none⟩ Q):WO X n wm rd ops (⟨some d,op,ty,p,af,g⟩::l) ⟨fr,ds,h,none⟩ Q:=
 WO.call hg hd (he h) rfl hc k
def WO.cl{Q:XX->Fs->Prop}{op:Op}{f:V8}{args:Va N}{K:N->U (Ast wm)->Prop}(hg:ZP ops ⟨some d,op,ty,p,af,g⟩ fr)(hd:Nat.blt d n=true)(he:Yh X fr ⟨some d,op,ty,p,af,g⟩ f args)(hS:Sp wm T h0 G h)(pk:Sel G Ga Gr)
 (hc:∀g':H,g'.size=h.size->Fz wm h g'->Z7 Ga g'->WR X f args wm g' (CP K Ga g')) (k:∀v h' Gb,K v Gb->Sp wm T h0 (Gb++Gr) h'->WO X n wm rd ops l ⟨Tr.set fr d v,ds,h',none⟩ Q):
 WO X n wm rd ops (⟨some d,op,ty,p,af,g⟩::l) ⟨fr,ds,h,none⟩ Q:=by
 obtain⟨e,h',⟨v,rfl,Gb,hk,hs⟩,hj⟩:=hc h rfl (Fz.refl _ _) (hS.Zbs pk);exact WO.en hg hd he hj (k v h' Gb hk (hS.call pk hs))
def Vj{Q:XX->Fs->Prop}{op:Op}{f:FuncId}{args:Array Value}{K:Value->List (Ast wm)->Prop}(he:Yh X fr ⟨some d,op,ty,p,af,none⟩ f args)(hS:Sp wm T h0 G h)(pk:Sel G Ga Gr)
 (hc:∀g':H,g'.size=h.size->Fz wm h g'->Z7 Ga g'->WR X f args wm g' (CP K Ga g')) (k:∀v h' Gb,K v Gb->Sp wm T h0 (Gb++Gr) h'->WO X n wm rd ops l ⟨Tr.set fr d v,ds,h',none⟩ Q) (hd:Nat.blt d n=true:=by exact rfl):WO X n wm rd ops (⟨some d,op,ty,p,af,none⟩::l) ⟨fr,ds,h,none⟩ Q:=WO.cl gN hd he hS pk hc k
def Qk.mono{P:V7}{o:Oper}{M M':Nat->Prop}{v:N}(hM:∀i,i<h.size->M i->M' i)(s:Qk P wm rd ops o M fr h v h2):Qk P wm rd ops o M' fr h v h2:=fun ρ a w F K Q r Zt hf hF hK=>
 s ρ a w F K Q r Zt hf hF fun ρ' v' w' hv r' st=>hK ρ' v' w' hv r' (st.weaken hM r.lt)
def Sp.ZLx(hh:Z7 Ga h)(c:Sp wm (Qm Ga) h Gb h2):J8 (Qm Ga) h h2:=by
 refine⟨c.size,c.keep,fun i hi ho=>?_,fun i hi ho=>?_⟩
 ·by_cases ht:Qm Ga i
  ·exact(hh.own ht).2
  ·rwa[c.keep i hi ht]at ho
 ·by_cases ht:Qm Ga i
  ·exact J4 (hh.own ht).2
  ·rwa[c.keep i hi ht]at ho
open Classical in
def JB (wm:Nat) (h:H) (R:Nat ->Prop):List Nat:= (List.range h.size).filter fun x=>decide (wm <=x∧(h.at x).own=true∧¬ R x)
def Ui{R:Nat->Prop}{x:Nat}:x∈JB wm h R↔x<h.size/\wm<=x/\(h.at x).own=true/\¬ R x:=by unfold JB;simp
def WX.clC{Q:Fr->H->Prop}(to:U (Nat×(Nat->Prop))){op:Op}{f:V8}{args:Va N}{K:N->U (Ast wm)->Prop}(hg:ZP ops ⟨some d,op,ty,p,af,g⟩ fr)(hd:Nat.blt d n=true)(he:Yh X fr ⟨some d,op,ty,p,af,g⟩ f args)(hS:Sp wm T h0 G h)(pk:Sel G Ga Gr)
 (hc:∀g':H,g'.size=h.size->Fz wm h g'->Z7 Ga g'->WR X f args wm g' (CP K Ga g')) (k:∀v h' Gb,K v Gb->Sp wm T h0 (Gb++Gr) h'->WX X n wm rd ops ⟨sf.s,to++sf.m,sf.p⟩ (m+1) h' l (Tr.set fr d v) Q)
 (hh:ZN ⟨some d,op,ty,p,af,g⟩=false) (hto:∀x,Qm Ga x->x<h.size->∃q∈to,q.1=m/\q.2 x) (htb:∀q∈to,∀x,q.2 x->x<h.size) (hM:okM ops sf m ⟨some d,op,ty,p,af,g⟩=true) (hB:∀x,Qm Ga x->∀i o',i<m->ops.toList[i]? =some o'->Cmp ops i m\/ZN o'=true\/∃V,(i,V)∈sf.s/\V x):
 WX X n wm rd ops sf m h (⟨some d,op,ty,p,af,g⟩::l) fr Q:=by
 have ha:=hS.Zbs pk;have hw:=hS.hw;have hat:∀x,x∉JB wm h (Qm Ga)->(mask (JB wm h (Qm Ga)) h).at x=h.at x:=fun x hx=>by rw[Xp,if_neg hx]
 have hnf:∀x,Qm Ga x->x∉JB wm h (Qm Ga):=fun x hx q=>(Ui.1 q).2.2.2 hx
 have hfz:Fz wm h (mask (JB wm h (Qm Ga)) h):=by
  refine⟨by rw[Zp];exact K1 _,fun i cs own z e s=>?_,fun i h1 h2=>?_⟩
  ·rw[hat i fun q=>?_,e];have q:=Ui.1 q;rcases s with s|s
   ·omega
   ·rw[e]at q;subst s;exact Bool.noConfusion q.2.2.1
  ·exact hat i fun q=>by have:=(Ui.1 q).2.1;omega
 have hha:Z7 Ga (mask (JB wm h (Qm Ga)) h):=⟨fun A hA=>A.loc hfz (fun i f=>hat i (hnf i ⟨A,hA,f⟩)) (ha.all A hA),ha.dis⟩
 obtain⟨e,g2,⟨v,rfl,Gb,hk,hs⟩,hj⟩:=hc _ (Zp _ _) hfz hha;have hsz:h.size<=g2.size:=by have:=hs.size;rwa[Zp]at this
 have hua:=XZ (JB wm h (Qm Ga)) h g2 hsz;have hout:∀x,x∉JB wm h (Qm Ga)->(X6 (JB wm h (Qm Ga)) h g2).at x=g2.at x:=fun x hx=>by rw[hua,if_neg (fun q=>hx q.1)]
 have hin:∀x,x∈JB wm h (Qm Ga)->g2.at x=.dead:=fun x hx=>by
  have q:=Ui.1 hx;rw[hs.keep x (by rw[Zp];exact q.1) q.2.2.2,Xp,if_pos hx]
 have hf2:Fz wm g2 (X6 (JB wm h (Qm Ga)) h g2):=by
  refine⟨by rw[YR];exact K1 _,fun i cs own z e _=>?_,fun i h1 _=>hout i fun q=>by have:=(Ui.1 q).2.1;omega⟩;rw[hout i fun q=>?_,e];rw[hin i q]at e;cases e
 have hsp:Sp wm (Qm Ga) h Gb (X6 (JB wm h (Qm Ga)) h g2):=by
  refine⟨hw,(hfz.trans hs.fz).trans hf2,fun i hi hn=>?_,⟨fun A hA=>A.loc hf2 (fun i f=>hout i fun q=>?_) (hs.hold.all A hA),hs.hold.dis⟩,fun i f=>by have:=hs.inn i f;rwa[Zp]at this⟩
  ·by_cases hx:i∈JB wm h (Qm Ga)
   ·rw[hua,if_pos ⟨hx,hi⟩]
   ·rw[hout i hx,hs.keep i (by rw[Zp];exact hi) hn,hat i hx]
  ·have q':=Ui.1 q;rcases hs.inn i ⟨A,hA,f⟩ with z|z
   ·exact q'.2.2.2 z
   ·rw[Zp]at z;omega
 have hown:∀x,Qm Ga x->x<h.size:=fun x hx=>Zso (ha.own hx).2
 refine⟨fun hb=>WE.cons (T:=Qm Ga) (xs0:=JB wm h (Qm Ga)) (v:=v) (h2:=X6 (JB wm h (Qm Ga)) h g2) [] to none ?_ (fun _ z=>by simp at z) hto
  (fun x hx hl i o' hi' ho'=>?_) (fun hh q hq=>.inl (K3 hM hh q hq)) (fun x j C z=>by cases z) ((k v _ Gb hk (hS.call pk hsp)).out fun q hq x hx=>?_)⟩
 ·refine⟨fun _=>⟨g2,rfl,(ZmE hg (he _) (by rw[Zp];exact hw) hj).mono fun i hi hm=>?_,hs.ZLx hha⟩,fun x hx=>(ha.own hx).1,fun d' e=>by cases e;rwa[G6]at hd,fun q=>Bool.noConfusion (hh.symm.trans q),fun x hx _=>hnf x hx⟩;rw[Zp]at hi;by_cases ht:Qm Ga i
  ·exact ht
  ·exfalso;by_cases hx:i∈JB wm h (Qm Ga)
   ·rw[Xp,if_pos hx]at hm;cases hm.2
   ·rw[hat i hx]at hm;exact hx (Ui.2 ⟨hi,hm.1,hm.2,ht⟩)
 ·exact(hB x hx i o' hi' ho').imp (fun z=>z) fun z=>z.imp (fun z=>z) .inl
 ·rw[YR];rcases Q1.1 hq with z|z
  ·exact G0 (htb q z x hx) hsz
  ·exact G0 (hb q z x hx) hsz
def WX.cl{Q:Fr->H->Prop}{op:Op}{f:V8}{args:Va N}{K:N->U (Ast wm)->Prop}(hg:ZP ops ⟨some d,op,ty,p,af,g⟩ fr)(hd:Nat.blt d n=true)(he:Yh X fr ⟨some d,op,ty,p,af,g⟩ f args)(hS:Sp wm T h0 G h)(pk:Sel G Ga Gr)
 (hc:∀g':H,g'.size=h.size->Fz wm h g'->Z7 Ga g'->WR X f args wm g' (CP K Ga g')) (k:∀v h' Gb,K v Gb->Sp wm T h0 (Gb++Gr) h'->WX X n wm rd ops ⟨sf.s,(m,fun x=>Qm Ga x/\x<h.size)::sf.m,sf.p⟩ (m+1) h' l (Tr.set fr d v) Q)
 (hh:ZN ⟨some d,op,ty,p,af,g⟩=false) (hM:okM ops sf m ⟨some d,op,ty,p,af,g⟩=true) (is:U Nat) (hB:okB ops m is=true) (hi:XI sf (Qm Ga) is):
 WX X n wm rd ops sf m h (⟨some d,op,ty,p,af,g⟩::l) fr Q:=
 WX.clC [(m,fun x=>Qm Ga x/\x<h.size)] hg hd he hS pk hc k hh (fun x hx hl=>⟨_,Q2.2 rfl,rfl,hx,hl⟩) (fun q hq x hx=>by rw[Q2.1 hq]at hx;exact hx.2) hM fun x hx i o' hi' ho'=>(ZpC hB hi' ho').imp (fun z=>z) fun z=>z.imp (fun z=>z) fun z=>let⟨V,q1,q2⟩:=hi i z;⟨V,q1,q2 x hx⟩
def WX.cl0{Q:Fr->H->Prop}{op:Op}{f:V8}{args:Va N}{K:N->U (Ast wm)->Prop}(hg:ZP ops ⟨some d,op,ty,p,af,g⟩ fr)(hd:Nat.blt d n=true)(he:Yh X fr ⟨some d,op,ty,p,af,g⟩ f args)(hS:Sp wm T h0 G h)(pk:Sel G [] Gr)
 (hc:∀g':H,g'.size=h.size->Fz wm h g'->Z7 ([]:U (Ast wm)) g'->WR X f args wm g' (CP K [] g')) (k:∀v h' Gb,K v Gb->Sp wm T h0 (Gb++Gr) h'->WX X n wm rd ops sf (m+1) h' l (Tr.set fr d v) Q)
 (hh:ZN ⟨some d,op,ty,p,af,g⟩=false) (hM:okM ops sf m ⟨some d,op,ty,p,af,g⟩=true):
 WX X n wm rd ops sf m h (⟨some d,op,ty,p,af,g⟩::l) fr Q:=
 WX.clC [] hg hd he hS pk hc k hh (fun x ⟨A,q,_⟩=>by simp at q) (fun q hq=>by simp at hq) hM fun x ⟨A,q,_⟩=>by simp at q
structure Cv{wm KP:Nat}(A:Ast KP)(B:Ast wm):Prop where
 imp:∀h,A.P h->B.P h
 fp:∀i,B.fp i->A.fp i
inductive Cvs{wm KP:Nat}:List (Ast KP)->List (Ast wm)->Prop
 | n:Cvs [] []
 | c {A:Ast KP} {B:Ast wm} {G':List (Ast KP)} {G:List (Ast wm)}:Cv A B->Cvs G' G->Cvs (A::G') (B::G)
def Cvs.hold{wm KP:Nat}{G':U (Ast KP)}{G:U (Ast wm)}(c:Cvs G' G)(s:Z7 G' h):Z7 G h/\∀i,Qm G i->Qm G' i:=by
 induction c with
 | n=>exact⟨Z7.nil,fun i ⟨A,m,_⟩=>by simp at m⟩
 | @c A B G' G cv _ ih=>
   have hr:Z7 G' h:=Z7.right (Ga:=[A]) s;obtain⟨i1,i2⟩:=ih hr;have hd:=GW.1 s.dis;refine⟨⟨fun C hm=>?_,GW.2 ⟨fun C hm i f1 f2=>?_,i1.dis⟩⟩,fun i ⟨C,hm,f⟩=>?_⟩
   ·rcases Kd.1 hm with z|z
    ·rw[z];exact cv.imp h (s.all A (by simp))
    ·exact i1.all C z
   ·obtain⟨D,q1,q2⟩:=i2 i ⟨C,hm,f2⟩;exact hd.1 D q1 i (cv.fp i f1) q2
   ·rcases Kd.1 hm with z|z
    ·rw[z]at f;exact⟨A,by simp,cv.fp i f⟩
    ·obtain⟨D,q1,q2⟩:=i2 i ⟨C,z,f⟩;exact⟨D,by simp[q1],q2⟩
def Sp.clR{G':U (Ast h.size)}(s:Sp wm T h0 G h)(c:Sp h.size (Qm ([]:U (Ast h.size))) h G' h2)(cv:Cvs G' Gb):Sp wm T h0 (Gb++G) h2:=by
 obtain⟨i1,i2⟩:=cv.hold c.hold;refine Sp.step (Ga:=[]) (t:=fun _=>False) s ⟨c.size,fun i hi _=>c.keep i hi fun⟨A,q,_⟩=>by simp at q,fun _ z=>z.elim⟩ (fun _ z=>z.elim) i1 fun i f=>?_
 rcases c.inn i (i2 i f) with⟨A,q,_⟩|z
 ·simp at q
 ·exact .inr z
def cvM{κ ν:Type}{kv:κ->N}{vv:ν->N}{KP:Nat}{mm:O Nat}{ll:U (κ×ν)}(hw:wm<=KP):Cv (mp KP kv vv mm ll) (mp wm kv vv mm ll):=⟨fun _ s=>s.lower hw,fun _ e=>e⟩
def WX.ZGu{Q:Fr->H->Prop}{op:Op}{f:V8}{args:Va N}{v:N}(hg:ZP ops ⟨some d,op,ty,p,af,g⟩ fr)(hd:Nat.blt d n=true)(he:Yh X fr ⟨some d,op,ty,p,af,g⟩ f args)(gr:Grow h h2)(hj:Yq X (.call f args h.size h) (.fin (.ret v) h2))
 (k:WX X n wm rd ops sf (m+1) h2 l (Tr.set fr d v) Q) (hh:ZN ⟨some d,op,ty,p,af,g⟩=false) (hM:okM ops sf m ⟨some d,op,ty,p,af,g⟩=true):WX X n wm rd ops sf m h (⟨some d,op,ty,p,af,g⟩::l) fr Q:=by
 refine⟨fun hb=>WE.cons (T:=fun _=>False) (xs0:=[]) (v:=v) (h2:=h2) [] [] none ?_ (fun _ z=>by simp at z) (fun _ z=>z.elim) (fun _ z=>z.elim) (fun hh q hq=>.inl (K3 hM hh q hq)) (fun x j C z=>by cases z) (k.out fun q hq x hx=>G0 (hb q hq x hx) gr.size)⟩;refine⟨fun _=>⟨h2,rfl,(ZmE hg (he h) Vh hj).mono fun i hi hm=>absurd hm.1 (Nat.not_le_of_lt hi),gr.size,fun i hi _=>gr.keep i hi,fun i hi q=>by rwa[gr.keep i hi]at q,fun i hi q=>by rwa[gr.keep i hi]at q⟩,fun _ z=>z.elim,fun d' e=>by cases e;rwa[G6]at hd,fun q=>Bool.noConfusion (hh.symm.trans q),fun _ z=>z.elim⟩
def WX.clR{Q:Fr->H->Prop}{op:Op}{f:V8}{args:Va N}{K:N->U (Ast h.size)->Prop}(hg:ZP ops ⟨some d,op,ty,p,af,g⟩ fr)(hd:Nat.blt d n=true)(he:Yh X fr ⟨some d,op,ty,p,af,g⟩ f args)(_:wm<=h.size)
 (hc:WR X f args h.size h (CP K [] h)) (k:∀v h' G',K v G'->Sp h.size (Qm ([]:U (Ast h.size))) h G' h'->WX X n wm rd ops sf (m+1) h' l (Tr.set fr d v) Q) (hh:ZN ⟨some d,op,ty,p,af,g⟩=false) (hM:okM ops sf m ⟨some d,op,ty,p,af,g⟩=true):
 WX X n wm rd ops sf m h (⟨some d,op,ty,p,af,g⟩::l) fr Q:=by
 obtain⟨e,h',⟨v,rfl,Gb,hk,hs⟩,hj⟩:=hc;exact WX.ZGu hg hd he ⟨hs.size,fun i hi=>hs.keep i hi fun⟨A,q,_⟩=>by simp at q⟩ hj (k v h' Gb hk hs) hh hM
def WO.cp{Q:XX->Fs->Prop}{op:Op}{f:V8}{args:Va N}{v:N}(hg:ZP ops ⟨some d,op,ty,p,af,g⟩ fr)(hd:Nat.blt d n=true)(he:Yh X fr ⟨some d,op,ty,p,af,g⟩ f args)(hj:Pure X f args h v)(k:WO X n wm rd ops l ⟨Tr.set fr d v,ds,h,none⟩ Q):
 WO X n wm rd ops (⟨some d,op,ty,p,af,g⟩::l) ⟨fr,ds,h,none⟩ Q:=WO.en hg hd he (hj wm) k
def WX.cp{Q:Fr->H->Prop}{op:Op}{f:V8}{args:Va N}{v:N}(hg:ZP ops ⟨some d,op,ty,p,af,g⟩ fr)(hd:Nat.blt d n=true)(he:Yh X fr ⟨some d,op,ty,p,af,g⟩ f args)(hj:Pure X f args h v)
 (k:WX X n wm rd ops sf (m+1) h l (Tr.set fr d v) Q) (hh:ZN ⟨some d,op,ty,p,af,g⟩=false) (hM:okM ops sf m ⟨some d,op,ty,p,af,g⟩=true):WX X n wm rd ops sf m h (⟨some d,op,ty,p,af,g⟩::l) fr Q:=WX.ZGu hg hd he (Grow.refl h) (hj _) k hh hM
def WO.gcp{Q:XX->Fs->Prop}{op:Op}{f:V8}{args:Va N}{v:N}{c:Z}(hg:Zk ops ⟨some d,op,ty,p,af,g⟩ fr c)(hd:Nat.blt d n=true)(he:c=true->Yh X fr ⟨some d,op,ty,p,af,g⟩ f args)(hj:c=true->Pure X f args h v)(k:WO X n wm rd ops l ⟨Tr.set fr d (cond c v undef),ds,h,none⟩ Q):
 WO X n wm rd ops (⟨some d,op,ty,p,af,g⟩::l) ⟨fr,ds,h,none⟩ Q:=by
 cases c
 ·exact WO.Zen hg rfl hd k
 ·exact WO.cp hg hd (he rfl) (hj rfl) k
def WX.gcp{Q:Fr->H->Prop}{op:Op}{f:V8}{args:Va N}{v:N}{c:Z}(hg:Zk ops ⟨some d,op,ty,p,af,g⟩ fr c)(hd:Nat.blt d n=true)(he:c=true->Yh X fr ⟨some d,op,ty,p,af,g⟩ f args)(hj:c=true->Pure X f args h v)
 (k:WX X n wm rd ops sf (m+1) h l (Tr.set fr d (cond c v undef)) Q) (hh:ZN ⟨some d,op,ty,p,af,g⟩=false) (hM:okM ops sf m ⟨some d,op,ty,p,af,g⟩=true):WX X n wm rd ops sf m h (⟨some d,op,ty,p,af,g⟩::l) fr Q:=by
 cases c
 ·exact WX.off hg hd k hM
 ·exact WX.cp hg hd (he rfl) (hj rfl) k hh hM
def WO.inl{Q:XX->Fs->Prop}{op:Op}{f:V8}{args:Va N}(hg:ZP ops ⟨some d,op,ty,p,af,g⟩ fr)(hd:Nat.blt d n=true)(he:Yh X fr ⟨some d,op,ty,p,af,g⟩ f args)
 (k:WR X f args wm h (fun v h'=>WO X n wm rd ops l ⟨Tr.set fr d v,ds,h',none⟩ Q)):WO X n wm rd ops (⟨some d,op,ty,p,af,g⟩::l) ⟨fr,ds,h,none⟩ Q:=by
 obtain⟨e,h',⟨v,rfl,hk⟩,hj⟩:=k;exact WO.en hg hd he hj hk
def ZGk{α:Type}{e:UD α}{a:O Addr}{nn c:Nat}{xs:U α}{h':H}(hS:Sp wm T h0 G h)(pk:Pk G (ow wm e a nn c xs) Gr)(u:Up wm (JU a) h h')(s:Sl e wm h' a c xs):nn=xs.length/\Sp wm T h0 (Ye wm (Yy e) (a,c) xs::Gr) h':=
 ⟨(hS.get pk).1,hS.one pk u (fun _ q=>q) s fun _ z=>z.elim⟩
def WO.fzn{Q:XX->Fs->Prop}{α:Type}{e:UD α}{a:O Addr}{nn c:Nat}{xs:U α}(hS:Sp wm T h0 G h)(pk:Pk G (ow wm e a nn c xs) Gr)(k:∀h',nn=xs.length/\Sp wm T h0 (Ye wm (Yy e) (a,c) xs::Gr) h'->WO X n wm rd ops l ⟨fr,ds,h',none⟩ Q):WO X n wm rd ops l ⟨fr,ds,h,none⟩ Q:=
 WO.freeze (K1 wm) (hS.get pk).2 fun h' u s=>k h' (ZGk hS pk u s)
def WC.fzn{Q:XX->Fs->Prop}{cd:Code}{α:Type}{e:UD α}{a:O Addr}{nn c:Nat}{xs:U α}(hS:Sp wm T h0 G h)(pk:Pk G (ow wm e a nn c xs) Gr)(k:∀h',nn=xs.length/\Sp wm T h0 (Ye wm (Yy e) (a,c) xs::Gr) h'->WC X n wm rd cd ⟨fr,ds,h',none⟩ Q):WC X n wm rd cd ⟨fr,ds,h,none⟩ Q:=
 WC.freeze (K1 wm) (hS.get pk).2 fun h' u s=>k h' (ZGk hS pk u s)
def Sp.fsl{α:Type}{e:UD α}{a:O Addr}{c:Nat}{xs:U α}(s:Sp wm T h0 G h)(pk:Pk G (Ye wm (Yy e) (a,c) xs) Gr):Sl e wm h a c xs:=s.get pk
end
section
def k0{α:Type}{A:α}{G:U α}:Pk (A::G) A G:=.z
def k1{α:Type}{A b:α}{G:U α}:Pk (b::A::G) A (b::G):=.s k0
def k2{α:Type}{A b c:α}{G:U α}:Pk (b::c::A::G) A (b::c::G):=.s k1
def k3{α:Type}{A b c d:α}{G:U α}:Pk (b::c::d::A::G) A (b::c::d::G):=.s k2
def k4{α:Type}{A b c d e:α}{G:U α}:Pk (b::c::d::e::A::G) A (b::c::d::e::G):=.s k3
def k5{α:Type}{A b c d e f:α}{G:U α}:Pk (b::c::d::e::f::A::G) A (b::c::d::e::f::G):=.s k4
def k6{α:Type}{A b c d e f g:α}{G:U α}:Pk (b::c::d::e::f::g::A::G) A (b::c::d::e::f::g::G):=.s k5
def k7{α:Type}{A b c d e f g h:α}{G:U α}:Pk (b::c::d::e::f::g::h::A::G) A (b::c::d::e::f::g::h::G):=.s k6
def k8{α:Type}{A b c d e f g h i:α}{G:U α}:Pk (b::c::d::e::f::g::h::i::A::G) A (b::c::d::e::f::g::h::i::G):=.s k7
def k9{α:Type}{A b c d e f g h i j:α}{G:U α}:Pk (b::c::d::e::f::g::h::i::j::A::G) A (b::c::d::e::f::g::h::i::j::G):=.s k8
def k10{α:Type}{A b c d e f g h i j k:α}{G:U α}:Pk (b::c::d::e::f::g::h::i::j::k::A::G) A (b::c::d::e::f::g::h::i::j::k::G):=.s k9
def k11{α:Type}{A b c d e f g h i j k l:α}{G:U α}:Pk (b::c::d::e::f::g::h::i::j::k::l::A::G) A (b::c::d::e::f::g::h::i::j::k::l::G):=.s k10
def k12{α:Type}{A b c d e f g h i j k l m:α}{G:U α}:Pk (b::c::d::e::f::g::h::i::j::k::l::m::A::G) A (b::c::d::e::f::g::h::i::j::k::l::m::G):=.s k11
def k13{α:Type}{A b c d e f g h i j k l m n:α}{G:U α}:Pk (b::c::d::e::f::g::h::i::j::k::l::m::n::A::G) A (b::c::d::e::f::g::h::i::j::k::l::m::n::G):=.s k12
def k14{α:Type}{A b c d e f g h i j k l m n o:α}{G:U α}:Pk (b::c::d::e::f::g::h::i::j::k::l::m::n::o::A::G) A (b::c::d::e::f::g::h::i::j::k::l::m::n::o::G):=.s k13
def k15{α:Type}{A b c d e f g h i j k l m n o p:α}{G:U α}:Pk (b::c::d::e::f::g::h::i::j::k::l::m::n::o::p::A::G) A (b::c::d::e::f::g::h::i::j::k::l::m::n::o::p::G):=.s k14
def At.eqv{h h':H}{b o:Nat}{vs:U N}(e:h'.at b=h.at b)(a:At h b o vs):At h' b o vs:=by
 obtain⟨cs,own,z,h1,h2⟩:=a;exact⟨cs,own,z,by rw[e,h1],h2⟩
section
variable{wm:Nat}{G Ga Gr:U (Ast wm)}{h h0:H}{T:Nat->Prop}{A B:Ast wm}
def Sp.nil{α:Type}(s:Sp wm T h0 G h){e:UD α}:Sp wm T h0 (ow wm e none 0 0 ([]:U α)::G) h:=s.add ⟨rfl,Wx.nil⟩ fun i=>JU.none
def Sp.dj(s:Sp wm T h0 G h)(p:Sel G [A,B] Gr):∀x,A.fp x->¬ B.fp x:=fun x a b=>by
 have:=(s.Zbs p).dis;exact(GW.1 this).1 B (by simp) x a b
def Sp.ZIS{α:Type}{e:UD α}{a:O Addr}{c:Nat}{xs:U α}(s:Sp wm T h0 G h)(p:Pk G (Ye wm (Yy e) (a,c) xs) Gr):Sl e h.size h a c xs:=(s.fsl p).up s.hw
def Sp.ms{κ ν:Type}{kv:κ->N}{vv:ν->N}{m:O Nat}{l:U (κ×ν)}(s:Sp wm T h0 G h)(f:ZlK kv vv wm h0 m l):ZlK kv vv wm h m l:=f.fz s.fz
end
section
variable{X:Ctx}{h:H}{ev:V6->O N}{d:Nat}{ty:J}{p:String}{af:Va Edge}{g:O (Nat×Z)}
def ZQ{α:Type}{xs:U α}{v:α}{x y:V6}{t e:J}{sz b o nn c:Nat}{a:O Addr}{k:Int}(hu:X.P.underlying t=some (.slice e))(hs:Yu X.P e=some sz)(hx:ev x=some (.slice a nn c))(hy:ev y=some (Ve k))(hn:nn=xs.length)(ha:a=some ⟨b,o,none⟩)(hk:YA xs k=some v):
 Xm X h ev ⟨some d,.indexAddr t x y,ty,p,af,g⟩=some (.val (.pointer (some ⟨b,o+k.toNat*sz,none⟩)),.none):=by subst hn;exact ZOF hu hs hx hy ha hk
def ZoA{q x y:V6}{b:Z}{v:N}(hc:ev q=some (.bool b))(hb:b=true)(hx:ev x=some v):Xm X h ev ⟨some d,.pick q x y,ty,p,af,g⟩=some (.val v,.none):=by
 subst hb;rw[Zgb,hc];dsimp only;rw[hx];rfl
def ZoB{q x y:V6}{b:Z}{v:N}(hc:ev q=some (.bool b))(hb:b=false)(hy:ev y=some v):Xm X h ev ⟨some d,.pick q x y,ty,p,af,g⟩=some (.val v,.none):=by
 subst hb;rw[Zgb,hc];dsimp only;rw[hy];rfl
end
def WR.Zcb{X:Ctx}{f:V8}{args:Va N}{h:H}{v:N}(hp:plain v=true)(k:WR X f args h.size h (CP (wm:=h.size) (fun v' Gb=>v'=v/\Gb=[]) [] h)):Pure X f args h v:=
 WF.ZLl hp (k.mono fun _ _ ⟨v',h1,_,h2,_⟩=>⟨v',h1,h2.1⟩)
end
section
variable{X:Ctx}{n wm:Nat}{rd:O Nat}{ops:Va Oper}{fr:Fr}{h h1 h2 h0:H}{ty:J}{p:String}{af:Va Edge}{g:O (Nat×Z)}{T:Nat->Prop}{G Gr Ga Gb:U (Ast wm)}{d:Nat}
def Zeh(cs vs:U N)(o t:Nat)(hl:o+vs.length<=cs.length):(splice cs o vs)[t]? =if o<=t/\t<o+vs.length then vs[t-o]? else cs[t]?:=by
 have hlt:(cs.take o).length=o:=by rw[Gj];omega
 unfold splice;rw[Gc];by_cases h1:t<o
 ·rw[GV Vg,GD h1,if_neg Vg]
 ·rw[V0 Vg,hlt];by_cases h2:t<o+vs.length
  ·rw[GV Vg,if_pos ⟨by omega,h2⟩]
  ·rw[V0 Vg,GB,if_neg Vg];congr 1;omega
def KU(cs vs:U N)(o:Nat)(hl:o+vs.length<=cs.length):(splice cs o vs).length=cs.length:=by
 unfold splice;simp only[K2,Gj,GE];omega
def Zr7{cs vs:U N}{o a m:Nat}(hl:o+vs.length<=cs.length)(hf:a+m<=o\/o+vs.length<=a):((splice cs o vs).drop a).take m=(cs.drop a).take m:=by
 apply GO;intro t;by_cases ht:t<m
 ·rw[GD ht,GD ht,GB,GB,Zeh _ _ _ _ hl,if_neg Vg]
 ·rw[Jx (by rw[Gj];omega),Jx (by rw[Gj];omega)]
def ZlR{cs vs:U N}{a j m:Nat}(hl:a+m<=cs.length)(hj:j+vs.length<=m):((splice cs (a+j) vs).drop a).take m=splice ((cs.drop a).take m) j vs:=by
 have hlen:((cs.drop a).take m).length=m:=by rw[Gj,GE];omega
 apply GO;intro t;rw[Zeh _ _ _ _ (by rw[hlen];exact hj)];by_cases ht:t<m
 ·rw[GD ht,GB,Zeh _ _ _ _ Vg];by_cases h1:j<=t/\t<j+vs.length
  ·rw[if_pos h1,if_pos Vg];congr 1;omega
  ·rw[if_neg h1,if_neg Vg,GD ht,GB]
 ·have e1:(((splice cs (a+j) vs).drop a).take m)[t]? =none:=Jx (by rw[Gj];omega);rw[e1,if_neg Vg,Jx (by rw[hlen];omega)]
def Ze3{α:Type}(xs:U α)(k:Int)(y:α):(Znh xs k y).length=xs.length:=by unfold Znh;simp
def Zyb{α:Type}{xs:U α}{k:Int}{x y:α}(hk:YA xs k=some x)(j:Nat):(Znh xs k y)[j]? =if j=k.toNat then some y else xs[j]?:=by
 obtain⟨h1,h2,_⟩:=Za4 hk;unfold Znh;rw[List.getElem?_set];by_cases e:j=k.toNat
 ·subst e;rw[if_pos rfl,if_pos rfl,if_pos h2]
 ·rw[if_neg (fun z=>e z.symm),if_neg e]
section
variable{α:Type}{e:UD α}
def ZCY{a:O Addr}{c b o j:Nat}{xs:U α}{k:Int}{x y:α}{cs vs:U N}{q:e.Par}(so:Wx e wm wm h a c xs)(ha:a=some ⟨b,o,none⟩)(hk:YA xs k=some x)(hA:At h b (o+k.toNat*e.sz) cs)(hl:cs.length=e.sz)(hj:j+vs.length<=cs.length)
 (hy:splice cs j vs=e.sh q y) (hF:e.F wm h q y):∃row,h.at b=.row row true e.sz/\o+k.toNat*e.sz+j+vs.length<=row.length/\wm<=b/\∀h',Up wm (fun i=>i=b) h h'->h'.at b=.row (splice row (o+k.toNat*e.sz+j) vs) true e.sz->Wx e wm wm h' a c (Znh xs k y)/\At h' b (o+k.toNat*e.sz) (splice cs j vs):=by
 obtain⟨k1,k2,k3⟩:=Za4 hk;rcases so.mem with⟨q1,_⟩|⟨i,o',row,q1,q2,q3,q4,q5,q6⟩
 ·rw[ha]at q1;cases q1
 ·rw[ha]at q1;cases q1;have hel:=q6.len;have hm:(k.toNat+1)*e.sz<=xs.length*e.sz:=Gz _ k2;rw[V3]at hm
  have hrow:(row.drop (o+k.toNat*e.sz)).take e.sz=cs:=by
   obtain⟨cs',own,z,a1,a2,a3⟩:=hA;rw[q3]at a1;cases a1;have:=a2;rw[hl]at this;exact this
  refine⟨row,q3,by omega,q2,fun h' u hat=>⟨⟨by rw[Ze3];exact so.max,.inr ⟨b,o,_,ha,q2,hat,by rw[Ze3];exact q4,by rw[KU _ _ _ Vg];exact q5,⟨by rw[Ze3,KU _ _ _ Vg];exact hel,fun t z hz=>?_⟩⟩⟩,⟨_,_,_,hat,?_,?_⟩⟩⟩
  ·rw[Zyb hk]at hz;by_cases et:t=k.toNat
   ·rw[if_pos et]at hz;cases hz;subst et;exact⟨q,by rw[ZlR Vg Vg,hrow,hy],e.mono (u.fz Vh) hF⟩
   ·rw[if_neg et]at hz;obtain⟨q',g1,g2⟩:=q6.get t z hz;refine⟨q',?_,e.mono (u.fz Vh) g2⟩;rw[Zr7 Vg,g1];rcases Gk t k.toNat with z1|z1
    ·left;have:(t+1)*e.sz<=k.toNat*e.sz:=Gz _ z1;rw[V3]at this;omega
    ·right;have:(k.toNat+1)*e.sz<=t*e.sz:=Gz _ Vg;rw[V3]at this;omega
  ·rw[KU _ _ _ hj,hl,ZlR Vg Vg,hrow]
  ·rw[KU _ _ _ hj,KU _ _ _ Vg];omega
def ZLa{x y:V6}{t:J}{a:O Addr}{nn c b o j oo sz:Nat}{xs:U α}{k:Int}{x0:α}(y0:α){cs cs' vs:U N}{v:N}(q:e.Par)(hS:Sp wm T h0 G h)(pk:Pk G (ow wm e a nn c xs) Gr)(hs:Yu X.P t=some sz)(hx:Yo fr x=some (.pointer (some ⟨b,oo,none⟩)))(hy:Yo fr y=some v)
 (ha:a=some ⟨b,o,none⟩) (hk:YA xs k=some x0) (hA:At h b (o+k.toNat*e.sz) cs) (ho:oo=o+k.toNat*e.sz+j) (hvs:v.cells.toList=vs) (hn:Nat.beq vs.length sz=true) (hl:Nat.beq cs.length e.sz=true) (hj:Nat.ble (j+vs.length) cs.length=true) (hc:vs.all Value.oneCell'=true) (hv:splice cs j vs=cs') (hsh:cs'=e.sh q y0) (hF:e.F wm h q y0):
 HU X wm ⟨none,.store t x y,ty,p,af,g⟩ fr h (JU a) (fun h'=>Sp wm T h0 (ow wm e a nn c (Znh xs k y0)::Gr) h'/\At h' b (o+k.toNat*e.sz) cs'):=by
 obtain⟨h1,so⟩:=hS.get pk;have hj:=Nl0 hj;have hn:=Nb0 hn;obtain⟨row,r1,r2,r3,r4⟩:=ZCY so ha hk hA (Nb0 hl) hj (hv.trans hsh) hF;subst ho;obtain⟨e1,e2⟩:=ZFk (d:=none) (ty:=ty) (p:=p) (af:=af) (g:=g) hs hx hy r1 r3 hvs hn (by rw[<-hn];exact r2) hc rfl;have u:Up wm (fun i=>i=b) h (h.put b (.row (splice row (o+k.toNat*e.sz+j) vs) true e.sz)):=Up.put r3 (by rw[r1];rfl);obtain⟨w1,w2⟩:=r4 _ u (Z4 (YH r1 rfl) _);refine⟨_,_,e1,e2,fun z hz=>?_,by simp,hS.one pk u (fun i e=>by subst e;exact⟨o,ha⟩) ⟨by rw[Ze3];exact h1,w1⟩ fun i e=>.inl e,hv▸w2⟩;have:b=z:=by simpa[Eff.tgt]using hz
 subst this;exact⟨o,ha⟩
end
end
section
variable{X:Ctx}{n wm:Nat}{rd:O Nat}{ops:Va Oper}{fr:Fr}{h h1 h2 h0:H}{ty:J}{p:String}{af:Va Edge}{g:O (Nat×Z)}{T:Nat->Prop}{G Gr Ga Gb:U (Ast wm)}{d:Nat}
structure Ne(α:Type) where
 sz:Nat
 pos:0<sz
 Par:Type
 dflt:Par
 sh:Par->α->List Value
 len:∀p x,(sh p x).length=sz
 one:∀p x,(sh p x).all Value.oneCell'=true
 Yf:(wm:Nat)->Par->α->List (Ast wm)
section
variable{α:Type}{e:Ne α}
variable{a:O Addr}{nn c:Nat}{ps:Nat->e.Par}{xs:U α}
end
end
section
variable{X:Ctx}{n wm:Nat}{rd:O Nat}{ops:Va Oper}{fr:Fr}{h h1 h2 h0:H}{ty:J}{p:String}{af:Va Edge}{g:O (Nat×Z)}{T:Nat->Prop}{G Gr Ga Gb:U (Ast wm)}{d:Nat}
section
variable{α:Type}{e:Ne α}{a:O Addr}{nn c:Nat}{ps:Nat->e.Par}{xs:U α}
end
end
section
variable{X:Ctx}{n wm:Nat}{rd:O Nat}{ops:Va Oper}{l:U Oper}{fr:Fr}{h h1 h2 h0:H}{ty:J}{p:String}{af:Va Edge}{g:O (Nat×Z)}{T:Nat->Prop}{G Gr Ga Gb:U (Ast wm)}{d m:Nat}{sf:ST}
section
variable{α:Type}{e:UD α}
end
section
variable{α:Type}{e:Ne α}
end
structure ZE3{α:Type}(e:UD α)(a:Option Addr)(c:Nat)(xs:List α)(a':Option Addr)(c':Nat)(zs:List α):Prop where
 own:∀{wm:Nat}{h:H},Wx e wm wm h a c xs->Wx e wm wm h a' c' zs
 sl:∀{wm:Nat}{h:H},Sl e wm h a c xs->Sl e wm h a' c' zs
 base:∀i,JU a' i->JU a i
def Zx6{α:Type}{xs zs:U α}{lo hi:Int}(hz:slL xs lo hi=some zs):∃l k:Nat,lo=(l:Int)/\hi=(k:Int)/\l<=k/\k<=xs.length/\zs=(xs.take k).drop l:=by
 unfold slL at hz;by_cases h1:0<=lo
 ·rw[decide_eq_true h1,GG]at hz;by_cases h2:lo<=hi
  ·rw[decide_eq_true h2,GG]at hz;by_cases h3:hi<=xs.length
   ·rw[decide_eq_true h3]at hz;cases hz;exact⟨lo.toNat,hi.toNat,by omega,by omega,by omega,by omega,rfl⟩
   ·rw[decide_eq_false h3]at hz;cases hz
  ·rw[decide_eq_false h2]at hz;cases hz
 ·rw[decide_eq_false h1]at hz;cases hz
def QR.piece{α:Type}{e:UD α}{cs:U N}{o:Nat}{xs:U α}{l k:Nat}(a:QR e wm h cs o xs)(hl:l<=k)(hk:k<=xs.length):QR e wm h cs (o+l*e.sz) ((xs.take k).drop l):=by
 have hlen:((xs.take k).drop l).length=k-l:=by rw[GE,Gj];omega
 refine⟨?_,fun j x hj=>?_⟩
 ·rw[hlen];have:=a.len;have h1:k*e.sz<=xs.length*e.sz:=Gz _ hk;have h2:l*e.sz+(k-l)*e.sz=k*e.sz:=by rw[<-Nat.add_mul];congr 1;omega
  omega
 ·have hjl:j<k-l:=by have:=(Li0 hj).1;rwa[hlen]at this
  rw[GB,GD Vg]at hj;obtain⟨q,g1,g2⟩:=a.get _ x hj;refine⟨q,?_,g2⟩;rw[<-g1,Nat.add_mul];congr 2;omega
def Zr5{α:Type}{e:UD α}{i o c:Nat}{xs:U α}{l k o' c':Nat}(hl:l<=k)(hk:k<=xs.length)(hc:(o'=o+l*e.sz/\c' / 2=c / 2-l)\/(o'=o/\c / 2=l/\c' / 2=0)):
 ZE3 e (some ⟨i,o,none⟩) c xs (some ⟨i,o',none⟩) c' ((xs.take k).drop l):=by
 have hlen:((xs.take k).drop l).length=k-l:=by rw[GE,Gj];omega
 refine⟨fun{wm h} s=>?_,fun{wm h} s=>?_,fun i' ⟨o2,e2⟩=>by cases e2;exact⟨o,rfl⟩⟩
 ·rcases s.mem with⟨q,_⟩|⟨i',o2,cs,q1,q2,q3,q4,q5,q6⟩
  ·cases q
  ·cases q1;have hmx:=s.max;refine⟨by rw[hlen];omega,.inr ⟨i,o',cs,rfl,q2,q3,?_,?_,?_⟩⟩
   ·rw[hlen];rcases hc with⟨_,z⟩|⟨_,z1,z2⟩
    ·rw[z];omega
    ·omega
   ·rcases hc with⟨z0,z⟩|⟨z0,z1,z2⟩
    ·rw[z,z0];have h2:l*e.sz+(c / 2-l)*e.sz=c / 2*e.sz:=by rw[<-Nat.add_mul];congr 1;omega
     omega
    ·rw[z2,z0,Nat.zero_mul];omega
   ·rcases hc with⟨z0,z⟩|⟨z0,z1,z2⟩
    ·rw[z0];exact q6.piece hl hk
    ·have he:(xs.take k).drop l=[]:=by apply G7;rw[hlen];omega
     rw[he];exact QR.nil Vg
 ·have hmx:=s.max;refine⟨by rw[hlen];omega,?_,.inr (.inr ⟨i,o',rfl⟩),?_⟩
  ·have:=s.cap;rw[hlen];rcases hc with⟨_,z⟩|⟨_,z1,z2⟩<;>omega
  ·rcases s.mem with q|⟨i',o2,cs,own,z,q1,q2,q3,q4⟩
   ·left;subst q;simp
   ·cases q1;by_cases hz:k-l=0
    ·left;apply G7;rw[hlen];exact hz
    ·right;refine⟨i,o',cs,own,z,rfl,q2,q3,?_⟩;rcases hc with⟨z0,z⟩|⟨z0,z1,z2⟩
     ·rw[z0];exact q4.piece hl hk
     ·have:=s.cap;omega
def ZCx{α:Type}{e:UD α}{a:O Addr}{xs:U α}{l k:Nat}(hx:xs=[]):ZE3 e a 0 xs a 0 ((xs.take k).drop l):=by
 subst hx;have:(([]:U α).take k).drop l=[]:=by simp
 rw[this];exact⟨fun s=>s,fun s=>s,fun i f=>f⟩
def ZJV{α:Type}{e:UD α}{t el:J}{x:V6}{lo hi:O V6}{a:O Addr}{nn c:Nat}{xs zs:U α}{a1 a2:Int}(so:Wx e wm wm h a c xs)(hn:nn=xs.length)(hu:X.P.underlying t=some (.slice el))(hs:Yu X.P el=some e.sz)(hx:Yo fr x=some (.slice a nn c))
 (hlo:evo (Yo fr) lo=some none/\a1=0\/∃k,evo (Yo fr) lo=some (some (.int k a1))) (hhi:evo (Yo fr) hi=some none/\a2=xs.length\/∃k,evo (Yo fr) hi=some (some (.int k a2))) (hz:slL xs a1 a2=some zs):
 ∃a' c',Xm X h (Yo fr) ⟨some d,.slice t x lo hi none,ty,p,af,g⟩=some (.val (.slice a' zs.length c'),.none)/\ZE3 e a c xs a' c' zs:=by
 obtain⟨l,k,rfl,rfl,hlk,hkx,rfl⟩:=Zx6 hz;subst hn;have hlen:((xs.take k).drop l).length=k-l:=by rw[GE,Gj];omega
 obtain⟨vlo,el1,el2⟩:∃vlo,evo (Yo fr) lo=some vlo/\obN vlo 0=some l:=by
  rcases hlo with⟨z,z2⟩|⟨kk,z⟩
  ·exact⟨none,z,by have:l=0:=Vg
                   subst this;rfl⟩
  ·exact⟨_,z,rfl⟩
 obtain⟨vhi,eh1,eh2⟩:∃vhi,evo (Yo fr) hi=some vhi/\obN vhi xs.length=some k:=by
  rcases hhi with⟨z,z2⟩|⟨kk,z⟩
  ·exact⟨none,z,by have:k=xs.length:=Vg
                   subst this;rfl⟩
  ·exact⟨_,z,rfl⟩
 have key:∀v,aslice X.P h t (.slice a xs.length c) vlo vhi none=some v->Xm X h (Yo fr) ⟨some d,.slice t x lo hi none,ty,p,af,g⟩=some (.val v,.none):=fun v hv=>by
  show(match Yo fr x,evo (Yo fr) lo,evo (Yo fr) hi,evo (Yo fr) none with
   | some x,some lo,some hi,some mx=>bif plain x&&not (Zy5 x) then(match lo,hi,mx with
      | lo,hi,mx=>bif QO (lo.toList++hi.toList++mx.toList) then pN (U0 X.P (Instr.sliceAt t x lo hi mx)) else none)
     else vN (aslice X.P h t x lo hi mx)
   | _,_,_,_=>none)=_
  rw[hx,el1,eh1];show(bif plain (.slice a xs.length c)&&not (Zy5 (.slice a xs.length c)) then _ else vN (aslice X.P h t (.slice a xs.length c) vlo vhi none))=_;have:Zy5 (.slice a xs.length c)=true:=rfl;rw[this,QP,Bool.and_false,Cq0,hv];rfl
 rcases so.mem with⟨rfl,rfl,rfl⟩|⟨i,o,cs,rfl,q2,q3,q4,q5,q6⟩
 ·have hk0:k=0:=by simpa using hkx
  have hl0:l=0:=Vg
  subst hk0 hl0;refine⟨none,0,key _ ?_,ZCx rfl⟩;have ZSa:obN vhi 0=some 0:=eh2
  have:aslice X.P h t (Vd) vlo vhi none=some (Vd):=by
   unfold aslice;simp only[hu,hs,el2,ZSa]
  exact this
 ·have hmain:∀v,(bif Nat.ble l k&&Nat.ble k (c / 2) then
   bif Nat.beq (c % 2) 0 then some (Value.slice (some ⟨i,bif Nat.beq (c / 2) l then o else o+l*e.sz,none⟩) (k-l) (2*(c / 2-l)))
   else bif Nat.beq l 0 then some (.slice (some ⟨i,o,none⟩) k c)
   else match h.at i with
    | .row _ true s=>bif Nat.beq s e.sz&&Nat.ble 1 e.sz then some (.slice (some ⟨i,o+l*e.sz,none⟩) (k-l) (2*(c / 2-l)+1)) else none
    | _=>none
   else none)=some v->aslice X.P h t (.slice (some ⟨i,o,none⟩) xs.length c) vlo vhi none=some v:=fun v hv=>by
   unfold aslice;simp only[hu,hs,el2,eh2];exact hv
  have b1:(Nat.ble l k&&Nat.ble k (c / 2))=true:=by rw[Nm0 hlk,Nm0 (KB hkx q4)];rfl
  rw[b1]at hmain;simp only[Cq1]at hmain;cases hev:Nat.beq (c % 2) 0 with
  | true=>
    rw[hev]at hmain;simp only[Cq1]at hmain;refine⟨_,_,key _ (by rw[hlen];exact hmain _ rfl),Zr5 hlk hkx ?_⟩;cases hcl:Nat.beq (c / 2) l with
    | true=>right;have:=Nb0 hcl;exact⟨rfl,this,by omega⟩
    | false=>left;exact⟨rfl,by omega⟩
  | false=>
    rw[hev]at hmain;simp only[Cq0]at hmain;cases hl0:Nat.beq l 0 with
    | true=>
      have:=Nb0 hl0;subst this;rw[hl0]at hmain;simp only[Cq1]at hmain;exact⟨_,_,key _ (by rw[hlen];exact hmain _ rfl),Zr5 hlk hkx (.inl ⟨by omega,by omega⟩)⟩
    | false=>
      rw[hl0,q3]at hmain;simp only[Cq0]at hmain;have b2:(Nat.beq e.sz e.sz&&Nat.ble 1 e.sz)=true:=by rw[V4,Nm0 (show 1<=e.sz from e.pos)];rfl
      rw[b2]at hmain;exact⟨_,_,key _ (by rw[hlen];exact hmain _ rfl),Zr5 hlk hkx (.inl ⟨rfl,by omega⟩)⟩
end
section
variable{X:Ctx}{n wm:Nat}{rd:O Nat}{ops:Va Oper}{l:U Oper}{fr:Fr}{ds:U Vc}{h h1 h2 h0:H}{ty:J}{p:String}{af:Va Edge}{g:O (Nat×Z)}{T:Nat->Prop}{G Gr Ga Gb:U (Ast wm)}{d m:Nat}{sf:ST}
section
variable{α:Type}{e:UD α}{a a1:O Addr}{nn c n1 c1:Nat}{ps:Nat->O Addr×Nat×Nat}{xs:U (U α)}
def ZqT{ev:V6->O N}{x:V6}{v:N}(hx:ev x=some v):evo ev (some x)=some (some v):=by
 show(match ev x with|some v=>some (some v) | none=>none)=_;rw[hx]
end
section
variable{κ ν:Type}[DecidableEq κ]{kt vt:J}{kv:κ->N}{vv:ν->N}{i:Nat}{ll:U (κ×ν)}{Q:Fr->H->Prop}
end
def ZEz{f:V8}:Yo fr (.func f)=some (.func (.func f) #[] #[]):=Zrx fr f
end
section
variable{X:Ctx}{h:H}{ev:V6->O N}{d:O Tmp}{ty:J}{p:String}{af:Va Edge}{g:O (Nat×Z)}{P:V7}
def ZmP{op:BinOp}{t:J}{x y:V6}{k:IntKind}{a b c:Int}(hb:binOp op t (.int k a) (.int k b)=pure (.int k c))(hn:op≠.eql/\op≠.neq):XT P op t x y (.int k a) (.int k b)=some (.val (.int k c),.none):=by
 have hp:(plain (.int k a)&&plain (.int k b))=true:=rfl;unfold XT;rw[hp,Cq1]
 have hg:(do eqGuard op t x y (.int k a) (.int k b);binOp op t (.int k a) (.int k b):Sem N)=pure (.int k c):=by
  rw[hb];cases op<;>first|rfl|exact absurd rfl hn.1|exact absurd rfl hn.2
 rw[hg];rfl
def Zxc{t:J}{x y:V6}{a b c:Int}(hc:Zv6 a b=some c):XT P .quo t x y (Ve a) (Ve b)=some (.val (Ve c),.none):=by
 obtain⟨h1,rfl⟩:=Zv5 hc;exact ZmP (by simp[binOp,Op.intDiv,h1,XO]) ⟨by simp,by simp⟩
def Zxb{t:J}{x y:V6}{k:IntKind}{a b c:Int}(hc:Zv3 a b=some c):XT P .rem t x y (.int k a) (.int k b)=some (.val (.int k c),.none):=by
 obtain⟨h1,rfl⟩:=Zv2 hc;exact ZmP (by simp[binOp,Op.intDiv,h1]) ⟨by simp,by simp⟩
def ZJ1{s t:J}{x:V6}{k k':IntKind}{a:Int}{us:TypeDesc}(hs:X.P.underlying s=some us)(ht:X.P.underlying t=some (.int k'))(hx:ev x=some (.int k a)):Xm X h ev ⟨d,.convert s t x,ty,p,af,g⟩=some (.val (.int k' (k'.wrap a)),.none):=by
 have:Xm X h ev ⟨d,.convert s t x,ty,p,af,g⟩=(match ev x with
  | some a=>bif plain a then pN (U0 X.P (convert s t a)) else vN (Zhm X.P h s t a)
  | none=>none):=rfl
 rw[this,hx];have hpl:plain (.int k a)=true:=rfl;dsimp only;rw[hpl,Cq1]
 have hr:Zr X.P (convert s t (.int k a))=some (.ok (.int k' (k'.wrap a))):=by
  unfold convert;rw[prb (Yx hs),prb (Yx ht)]
  rfl
 unfold U0;rw[hr];rfl
def ZJW{x y:V6}{ts:Va J}{k:IntKind}{a b:Int}(hx:ev x=some (.int k a))(hy:ev y=some (.int k b)):Xm X h ev ⟨d,.call {callee:=.builtin .max,args:=#[x,y],argTypes:=ts},ty,p,af,g⟩=some (.val (.int k (if b>a then b else a)),.none):=by
 have hev:evs ev (#[x,y]:Va V6).toList=some [.int k a,.int k b]:=Zb hx (Zb hy Zd);rw[Uy,hev];show(bif QO [.int k a,.int k b] then pN (U0 X.P (Builtin.max_ ts ty #[.int k a,.int k b])) else none)=_;have:Builtin.max_ ts ty #[.int k a,.int k b]=pure (.int k (if b>a then b else a)):=rfl;rw[this];rfl
end
section
variable{X:Ctx}{n wm:Nat}{rd:O Nat}{ops:Va Oper}{ol:U Oper}{fr:Fr}{ds:U Vc}{h h0:H}{ty:J}{p:String}{af:Va Edge}{g:O (Nat×Z)}{T:Nat->Prop}{G Gr:U (Ast wm)}{d l df:Nat}{LO:YD}{ps:Va Tmp}{Yf bd:Code}
def bsy:YD->YD
 | .loop _ pd fr n ps Yf bd df=>.loop .busy pd fr n ps Yf bd df
 | A=>A
structure RgE(wm l:Nat)(fr:Fr)(n:Nat)(ps:Array Tmp)(Yf bd:Code)(df:Nat)(ds:List Deferred)(Q:XX->Fs->Prop)(h:H):Prop where
 at_:h.at l=.loop .ready none fr n ps Yf bd df
 low:wm<=l
 k:∀h',Up wm (fun i=>i=l) h h'->Q .normal ⟨fr,⟨.collected df,#[]⟩::ds,h',none⟩
def RgE.sp{Q:XX->Fs->Prop}(hLO:LO=.loop .ready none fr n ps Yf bd df)(hS:Sp wm T h0 G h)(pk:Pk G (ob wm l LO) Gr)(k:∀h',Sp wm T h0 Gr h'->Q .normal ⟨fr,⟨.collected df,#[]⟩::ds,h',none⟩):RgE wm l fr n ps Yf bd df ds Q h:=by
 obtain⟨h1,h2,h3⟩:=hS.get pk;refine⟨h1.trans hLO,h2,fun h' u=>k h' ?_⟩;exact Sp.step (Ga:=[ob wm l LO]) (Gb:=[]) (hS.perm pk.perm) u (fun i e=>⟨_,Q2.2 rfl,e⟩) Z7.nil fun i ⟨A,m,f⟩=>by simp at m
def Zeo{A:YD}(hA:A.own=true)(s:Sp wm T h0 Gr h):Sp wm T h0 (ob wm h.size A::Gr) (h.push A):=
 Sp.new s (Up.push wm h A) ⟨QV h A,s.hw,hA⟩ fun i e=>by have:i=h.size:=e;omega
def WC.Zyk{Q:XX->Fs->Prop}{gg:V6}{f:V8}{first cap:U N}(hS:Sp wm T h0 G h)(hg:Yo fr gg=some (.func (.func f) first.toArray cap.toArray))(hf:(X.fns.get f).isSome=true)
 (k:∀h' l df LO,LO=YD.loop .ready none fr n ps Yf bd df->Sp wm T h0 (ob wm l LO::ob wm df .deferred::G) h'->WR X f (first++([Value.func (.yield l) #[] #[]]++cap)).toArray wm h' (fun _ h2=>RgE wm l fr n ps Yf bd df ds Q h2)):
 WC X n wm none (.rangeFunc gg ps Yf bd) ⟨fr,ds,h,none⟩ Q:=by
 have s1:Sp wm T h0 (ob wm h.size .deferred::G) (h.push .deferred):=Zeo rfl hS
 have s2:Sp wm T h0 (ob wm (h.size+1) (.loop .ready none fr n ps Yf bd h.size)::ob wm h.size .deferred::G) ((h.push .deferred).push (.loop .ready none fr n ps Yf bd h.size)):=by
  have:=Zeo (A:=.loop .ready none fr n ps Yf bd h.size) rfl s1
  rwa[H.size_push]at this
 obtain⟨fn,hf⟩:=GJ.1 hf;obtain⟨e,h3,⟨v,rfl,hr⟩,hj⟩:=k _ _ _ _ rfl s2;have hat:=hr.at_;refine⟨.normal,_,hr.k (h3.put (h.size+1) (.loop .exhausted none fr n ps Yf bd h.size)) (Up.put hr.low (by rw[hat];rfl)),?_⟩;refine Y5.2 (QF (C:=cfg X fun _=>false) (ih:=QK (.call f _ wm _) (.fin (.ret v) h3)) (Y9 hj) ?_);show Xv (cfg X fun _=>false) _ gg n wm none (h.size+1) ⟨fr,⟨.collected h.size,#[]⟩::ds,(h.push .deferred).push (.loop .ready none fr n ps Yf bd h.size),none⟩=_;unfold Xv;dsimp only;rw[hg]
 have hac:Uz (cfg X fun _=>false).X ((h.push .deferred).push (.loop .ready none fr n ps Yf bd h.size)) (.func (.func f) first.toArray cap.toArray) [Value.func (.yield (h.size+1)) #[] #[]]=some (.enter f (first++([Value.func (.yield (h.size+1)) #[] #[]]++cap)).toArray,.none):=by
  unfold Uz;have:(cfg X fun _=>false).X.fns.get f=some fn:=hf;dsimp only;rw[this];simp only[Gc]
 dsimp only;rw[hac];dsimp only;unfold Je;rw[Xa];dsimp only;rw[hat]
 rfl
def WR.ZHE{f:V8}{args:Va N}{K:N->H->Prop}{α β:Type}{r:β}(I:α->N->H->Prop)(j:α->O β)(k:∀x v h',j x=some r->I x v h'->K v h')(hc:WR X f args wm h (fun v h'=>∃x,j x=some r/\I x v h')):WR X f args wm h K:=
 hc.mono fun _ h' ⟨v,e,x,h1,h2⟩=>⟨v,e,k x v h' h1 h2⟩
def AsK.sp{Qp:Fr}{R:H->Prop}(hLO:LO=.loop .ready none fr n ps Yf bd df)(hS:Sp wm T h0 G h)(pk:Pk G (ob wm l LO) Gr)(k:∀h1,Sp wm T h0 (ob wm l (bsy LO)::Gr) h1->WC X n wm (some l) bd ⟨Qp,ds,h1,none⟩ (BdK n wm l fr ps Yf bd df R)):AsK X n wm wm l fr ps Yf bd df R .normal ⟨Qp,ds,h,none⟩:=by
 obtain⟨h1,h2,h3⟩:=hS.get pk;refine AsK.mk' (h1.trans hLO) fun h' u e=>k h' ?_
 exact hS.one pk (u h2) (fun _ q=>q) ⟨by rw[e,hLO];rfl,h2,by rw[hLO];rfl⟩ fun _ q=>.inl q
def BdK.sp{Qp:Fr}{R:H->Prop}(hLO:LO=.loop .ready none fr n ps Yf bd df)(hS:Sp wm T h0 G h)(pk:Pk G (ob wm l (bsy LO)) Gr)(k:∀h1,Sp wm T h0 (ob wm l LO::Gr) h1->R h1):BdK n wm l fr ps Yf bd df R .normal ⟨Qp,ds,h,none⟩:=by
 obtain⟨h1,h2,h3⟩:=hS.get pk;refine BdK.mk' (h1.trans (by rw[hLO];rfl)) fun h' u e=>k h' ?_
 exact hS.one pk (u h2) (fun _ q=>q) ⟨by rw[e,hLO],h2,by rw[hLO];rfl⟩ fun _ q=>.inl q
def WO.ZKO{Q:XX->Fs->Prop}{fo:V6}{xs:Va V6}{ts:Va J}{vs:U N}{n2:Nat}{Qp WY:Fr}{as2 bd2:Code}(hg:ZP ops ⟨some d,.call {callee:=.value fo,args:=xs,argTypes:=ts},ty,p,af,g⟩ fr)(hd:Nat.blt d n=true)(hf:Yo fr fo=some (.func (.yield l) #[] #[]))(hx:evs (Yo fr) xs.toList=some vs)
 (hS:Sp wm T h0 G h) (pk:Pk G (ob wm l LO) Gr) (hLO:LO=.loop .ready none Qp n2 ps as2 bd2 df) (hl:Nat.beq vs.length ps.toList.length=true) (hs:XJ (ps.toList.zip vs) n2 Qp=some WY)
 (k:WC X n2 wm (some l) as2 ⟨WY,[],h,none⟩ (AsK X n2 wm wm l Qp ps as2 bd2 df (fun h'=>WO X n wm rd ops ol ⟨Tr.set fr d (.bool true),ds,h',none⟩ Q))):
 WO X n wm rd ops (⟨some d,.call {callee:=.value fo,args:=xs,argTypes:=ts},ty,p,af,g⟩::ol) ⟨fr,ds,h,none⟩ Q:=by
 obtain⟨h1,h2,h3⟩:=hS.get pk;have hat:=h1.trans hLO;refine WO.yld hg hd hf hx hat (Nb0 hl) (ZrD.mk' (lo:=wm) hat h2 hl hs k) fun b h' ⟨e,hk⟩=>?_
 rw[e];exact hk
def ZI.Zf5{fn:Func}{R:U4->H->Prop}(hS:Sp wm T h0 G h)(pk:Pk G (ob wm df .deferred) Gr)(k:∀h',Sp wm T h0 Gr h'->ZI X fn wm R .ret ⟨fr,ds,h',none⟩):ZI X fn wm R .ret ⟨fr,⟨.collected df,#[]⟩::ds,h,none⟩:=by
 obtain⟨h1,h2,h3⟩:=hS.get pk;refine ZI.col wm h2 h1 h2 fun h' u=>k h' ?_
 exact Sp.step (Ga:=[ob wm df .deferred]) (Gb:=[]) (hS.perm pk.perm) u (fun i e=>⟨_,Q2.2 rfl,e⟩) Z7.nil fun i ⟨A,m,f⟩=>by simp at m
end
section
variable{X:Ctx}{n wm:Nat}{rd:O Nat}{ops:Va Oper}{l:U Oper}{fr:Fr}{ds:U Vc}{h h1 h2 h0:H}{ty:J}{p:String}{af:Va Edge}{g:O (Nat×Z)}{m:Nat}{T:Nat->Prop}{G Gr Ga Gb:U (Ast wm)}{d:Nat}{sf:ST}
def HW(X:Ctx)(wm:Nat)(o:Oper)(fr:Fr)(h:H)(K:H->Prop):Prop:=∃v E h1,Xm X h (Yo fr) o=some (.val v,E)/\E.apply wm h=some h1/\K h1
def WO.hw{Q:XX->Fs->Prop}{op:Op}{K:H->Prop}(hg:ZP ops ⟨none,op,ty,p,af,g⟩ fr)(s:HW X wm ⟨none,op,ty,p,af,g⟩ fr h K)(k:∀h',K h'->WO X n wm rd ops l ⟨fr,ds,h',none⟩ Q):
 WO X n wm rd ops (⟨none,op,ty,p,af,g⟩::l) ⟨fr,ds,h,none⟩ Q:=let⟨_,_,h1,ha,hE,hk⟩:=s;WO.val hg rfl ha hE (k h1 hk)
section
variable{α:Type}{e:UD α}{t el:J}{x:V6}{a:O Addr}{nn c:Nat}{xs zs ws us:U α}{a1 a2 a3:Int}
end
section
variable{κ ν:Type}[DecidableEq κ]{kt vt:J}{kv:κ->N}{vv:ν->N}{i:Nat}{ll:U (κ×ν)}
theorem ZHg{ts:Va J}{t:J}{rest:U J}{x y:V6}{k:κ}(hS:Sp wm T h0 G h)(pk:Pk G (mp wm kv vv (some i) ll) Gr)(K:ZcY X.P kt kv)(hts:ts.toList=t::rest)(hu:X.P.underlying t=some (.map kt vt))(hx:Yo fr x=some (.map (some i)))(hy:Yo fr y=some (kv k)):
 HW X wm ⟨none,.call {callee:=.builtin .delete,args:=#[x,y],argTypes:=ts},ty,p,af,g⟩ fr h (fun h'=>Sp wm T h0 (mp wm kv vv (some i) (Zer ll k)::Gr) h'):=by
 obtain⟨h',⟨E,ha,hE,_⟩,u,ho⟩:=ZJE (d:=none) (ty:=ty) (p:=p) (af:=af) (g:=g) K hts hu (K1 wm) hx rfl hy (hS.get pk);exact⟨_,E,h',ha,hE,hS.one pk u (fun j e=>by cases e;rfl) ho fun j e=>.inl e⟩
end
end
section
variable{X:Ctx}{n wm:Nat}{rd:O Nat}{ops:Va Oper}{l:U Oper}{fr:Fr}{ds:U Vc}{h h1 h2 h0:H}{ty:J}{p:String}{af:Va Edge}{g:O (Nat×Z)}{m:Nat}{T:Nat->Prop}{G Gr Ga Gb:U (Ast wm)}{d:Nat}{sf:ST}
def HE(X:Ctx)(o:Oper)(fr:Fr)(h:H)(K:N->Prop):Prop:=∃v,Xm X h (Yo fr) o=some (.val v,.none)/\K v
def WO.he{Q:XX->Fs->Prop}{op:Op}{K:N->Prop}(hg:ZP ops ⟨some d,op,ty,p,af,g⟩ fr)(hd:Nat.blt d n=true)(s:HE X ⟨some d,op,ty,p,af,g⟩ fr h K)(k:∀v,K v->WO X n wm rd ops l ⟨Tr.set fr d v,ds,h,none⟩ Q):
 WO X n wm rd ops (⟨some d,op,ty,p,af,g⟩::l) ⟨fr,ds,h,none⟩ Q:=let⟨v,ha,hk⟩:=s;WO.w hg hd ha (k v hk)
section
variable{α:Type}{e:UD α}{t el:J}{x:V6}{a:O Addr}{nn c:Nat}{xs zs ws us:U α}{a1 a2 a3:Int}
def ZFr{lo hi:O V6}(so:Wx e wm wm h a c xs)(hn:nn=xs.length)(hu:X.P.underlying t=some (.slice el))(hs:Yu X.P el=some e.sz)(hx:Yo fr x=some (.slice a nn c))
 (hlo:evo (Yo fr) lo=some none/\a1=0\/∃k,evo (Yo fr) lo=some (some (.int k a1))) (hhi:evo (Yo fr) hi=some none/\a2=xs.length\/∃k,evo (Yo fr) hi=some (some (.int k a2))) (hz:slL xs a1 a2=some zs):
 HE X ⟨some d,.slice t x lo hi none,ty,p,af,g⟩ fr h (fun v=>∃a' c',v=.slice a' zs.length c'/\ZE3 e a c xs a' c' zs):=
 let⟨a',c',h1,h2⟩:=ZJV (d:=d) (ty:=ty) (p:=p) (af:=af) (g:=g) so hn hu hs hx hlo hhi hz;⟨_,h1,a',c',rfl,h2⟩
end
end
section
variable{X:Ctx}{n wm KP:Nat}{fr:Fr}{h:H}{ty:J}{p:String}{af:Va Edge}{g:O (Nat×Z)}{d:Nat}
section
variable{α:Type}{e:UD α}{t el:J}{x:V6}{a:O Addr}{nn c:Nat}{xs zs:U α}{a2:Int}
end
end
section
variable{X:Ctx}{n wm:Nat}{rd:O Nat}{ops:Va Oper}{l:U Oper}{fr:Fr}{ds:U Vc}{h h1 h2 h0:H}{ty:J}{p:String}{af:Va Edge}{g:O (Nat×Z)}{T:Nat->Prop}{G Gr Ga Gb:U (Ast wm)}{d:Nat}
def Yp{α β:Type}{y:α}{p:Int->O β}{k:α->O β}{r:β}(h:Jp (.ok y) p k=some r):k y=some r:=h
def ZT{α β:Type}{e:Int}{p:Int->O β}{k:α->O β}{r:β}(h:Jp (.ZX e) p k=some r):p e=some r:=h
def pv(t:J)(k:Int):N:=.iface t (bif Nat.beq t 147 then .agg #[Ve k] else Ve k)
def PQ{β:Type}{wm:Nat}(t:J)(K:β->N->U (Ast wm)->Prop)(Ga:U (Ast wm))(h:H)(r:PR β):U4->H->Prop:=fun e h'=>match r with
 | .ok b=>∃v,e=.ret v/\CP (K b) Ga h v h'
 | .ZX k=>e=.ZX (pv t k)/\Sp wm (Qm Ga) h [] h'
section
variable{β:Type}{t:J}{K:β->N->U (Ast wm)->Prop}{f:V8}{args:Va N}
def PQ.ok{b:β}(k:WF X f args wm h (PQ t K Ga h (.ok b))):WR X f args wm h (CP (K b) Ga h):=k
def PQ.ZX{k:Int}(w:WF X f args wm h (PQ t K Ga h (.ZX k))):∃h',Sp wm (Qm Ga) h [] h'/\Yq X (.call f args wm h) (.fin (.ZX (pv t k)) h'):=
 let⟨_,h',hq,hj⟩:=w;⟨h',hq.2,by have:=hq.1;subst this;exact hj⟩
def WO.WN{Q:XX->Fs->Prop}{op:Op}{k:Int}(hg:ZP ops ⟨some d,op,ty,p,af,g⟩ fr)(he:Yh X fr ⟨some d,op,ty,p,af,g⟩ f args)(hS:Sp wm T h0 G h)(pk:Sel G Ga Gr)
 (hc:∀g':H,g'.size=h.size->Fz wm h g'->Z7 Ga g'->WF X f args wm g' (PQ t K Ga g' (.ZX k))) (kk:∀h',Sp wm T h0 Gr h'->Q (.panic (pv t k)) ⟨fr,ds,h',none⟩):
 WO X n wm rd ops (⟨some d,op,ty,p,af,g⟩::l) ⟨fr,ds,h,none⟩ Q:=by
 obtain⟨h',hs,hj⟩:=PQ.ZX (hc h rfl (Fz.refl _ _) (hS.Zbs pk));exact WO.ZkD hg (he h) rfl hj (kk h' (hS.call pk hs))
def ZI.Kg{fn:Func}{rs:U ResultVar}{vs:U N}{v:N}{b:β}{h0:H}(hr:fn.results.toList=rs)(hv:ZcK X.P fr h rs=some vs)(hl:(match vs with | [v]=>v|vs=>.tuple vs.toArray)=v)(k:CP (K b) Ga h0 v h):ZI X fn wm (PQ t K Ga h0 (.ok b)) .ret ⟨fr,[],h,none⟩:=
 ZI.gen (R:=fun v h'=>CP (K b) Ga h0 v h') hr hv hl k
end
def YU(X:Ctx)(fn:Func)(wm:Nat)(Q:U4->H->Prop)(pm:PM)(s:Fs):Prop:=∃E h',Q E h'/\Yq X (.leave fn wm pm s) (.fin E h')
section
variable{fn:Func}{R:U4->H->Prop}{s:Fs}{v:N}{pm:PM}
def ZI.ofP(k:YU X fn wm R .ret s):ZI X fn wm R .ret s:=let⟨E,h',h1,h2⟩:=k;⟨⟨.ret,E,h',rfl,h1,h2⟩⟩
def ZI.Kv(k:YU X fn wm R (.ZX v) s):ZI X fn wm R (.panic v) s:=let⟨E,h',h1,h2⟩:=k;⟨⟨.ZX v,E,h',rfl,h1,h2⟩⟩
def YU.ofL(k:ZI X fn wm R .ret s)(hp:pm=.ret):YU X fn wm R pm s:=by
 obtain⟨Ku,E,h',e,h1,h2⟩:=k.out;cases e;subst hp;exact⟨E,h',h1,h2⟩
def YU.ZX(k:R (.ZX v) h):YU X fn wm R (.ZX v) ⟨fr,[],h,none⟩:=by
 refine⟨.ZX v,h,k,Jh (C:=cfg X fun _=>false) (ih:=fun _=>none) (fun _ _ h=>by cases h) ?_⟩;unfold Ua
 rfl
def DC(X:Ctx)(n wm:Nat)(c:Code)(pm:PM)(s:Fs)(Q:XX->PM->Fs->Prop):Prop:=∃e Ku s',Q e Ku s'/\Yq X (.Xx c n wm pm s) (.Xx e Ku s')
structure DSq(X:Ctx)(n wm:Nat)(b:Code)(Q:XX->PM->Fs->Prop)(e:XX)(pm:PM)(s:Fs):Prop where
 YG:e=.normal
 k:DC X n wm b pm s Q
def DC.seq{a b:Code}{Q:XX->PM->Fs->Prop}(k:DC X n wm a pm s (DSq X n wm b Q)):DC X n wm (.seq a b) pm s Q:=by
 obtain⟨e,pm1,s1,⟨rfl,e2,pm2,s2,hq,j2⟩,j1⟩:=k;obtain⟨_,_,_,q1,ka⟩:=X4.1 j1;cases q1;obtain⟨_,_,_,q2,kb⟩:=X4.1 j2;cases q2;refine⟨_,_,_,hq,X4.2 ⟨_,_,_,rfl,fun ρ a c0 cs w Zt hi hpm=>wpSIn_seq (QX (ka ρ a c0 cs w Zt hi hpm) ?_)⟩⟩;rintro e' a' cs' w' ⟨ρ',u',rfl,hp',he,hi',hst⟩;cases he;refine QX (kb ρ' a' {c0 with mode:=u'} cs w' (KB Zt hst.size) hi' hp') ?_;rintro e3 a3 cs3 w3 ⟨ρ3,u3,rfl,q1,q2,q3,q4⟩;exact⟨ρ3,u3,rfl,q1,q2,q3,hst.trans hi.rel.lt q4⟩
def DC.rgn{id:Nat}{ops:Va Oper}{dr:Z}{Q:XX->PM->Fs->Prop}(hn:(!dr&&ops.toList.any isRecover)=false)(k:WC X n wm none (.region id ops dr) s (fun e s'=>Q e pm s')):DC X n wm (.region id ops dr) pm s Q:=by
 obtain⟨e,s',hq,j⟩:=k;refine⟨e,pm,s',hq,X4.2 (Ji (C:=cfg X fun _=>false) (ih:=QK (.code (.region id ops dr) n wm none s) (.code e s')) (Y9 (Y5.2 ⟨_,_,rfl,j⟩)) ?_)⟩;unfold Kz;dsimp only;rw[hn];unfold Za5;rw[Xa];rfl
def DC.skip{Q:XX->PM->Fs->Prop}(k:Q .normal pm s):DC X n wm .skip pm s Q:=by
 obtain⟨e,s',hq,j⟩:WC X n wm none .skip s (fun e s'=>Q e pm s'):=WC.skip k;refine⟨e,pm,s',hq,X4.2 (Ji (C:=cfg X fun _=>false) (ih:=QK (.code .skip n wm none s) (.code e s')) (Y9 (Y5.2 ⟨_,_,rfl,j⟩)) ?_)⟩;unfold Kz Za5;dsimp only;rw[Xa];rfl
def DC.ZmA{c:V6}{a b:Code}{t:Z}{Q:XX->PM->Fs->Prop}{fr:Fr}(hc:Yo fr c=some (.bool t))(ht:t=true)(k:DC X n wm a pm ⟨fr,ds,h,none⟩ Q):DC X n wm (.cond c a b) pm ⟨fr,ds,h,none⟩ Q:=by
 subst ht;obtain⟨e,Ku,s',hq,j⟩:=k;refine⟨e,Ku,s',hq,X4.2 (Ji (C:=cfg X fun _=>false) (ih:=QK (.Xx a n wm pm ⟨fr,ds,h,none⟩) (.Xx e Ku s')) (Y9 j) ?_)⟩;unfold Kz;dsimp only;rw[hc];exact Xa _ _
def DC.Zf3{c:V6}{a b:Code}{t:Z}{Q:XX->PM->Fs->Prop}{fr:Fr}(hc:Yo fr c=some (.bool t))(ht:t=false)(k:DC X n wm b pm ⟨fr,ds,h,none⟩ Q):DC X n wm (.cond c a b) pm ⟨fr,ds,h,none⟩ Q:=by
 subst ht;obtain⟨e,Ku,s',hq,j⟩:=k;refine⟨e,Ku,s',hq,X4.2 (Ji (C:=cfg X fun _=>false) (ih:=QK (.Xx b n wm pm ⟨fr,ds,h,none⟩) (.Xx e Ku s')) (Y9 j) ?_)⟩;unfold Kz;dsimp only;rw[hc];exact Xa _ _
def DC.rec{id:Nat}{ops:Va Oper}{Q:XX->PM->Fs->Prop}(Ku:PM)(fr':Fr)(hd:Zq5 X n wm ops.toList ops.toList pm ⟨fr,ds,h,none⟩=some (Ku,⟨fr',ds,h,none⟩))(hn:ops.toList.any isRecover=true)(k:Q .normal Ku ⟨fr',ds,h,none⟩):DC X n wm (.region id ops false) pm ⟨fr,ds,h,none⟩ Q:=by
 refine⟨.normal,Ku,_,k,X4.2 (Ji (C:=cfg X fun _=>false) (ih:=fun _=>none) (fun _ _ h=>by cases h) ?_)⟩;unfold Kz;dsimp only;rw[hn];have hd':Zq5 (cfg X fun _=>false).X n wm ops.toList ops.toList pm ⟨fr,ds,h,none⟩=some (Ku,⟨fr',ds,h,none⟩):=hd;rw[hd'];rfl
structure DEn(X:Ctx)(fn:Func)(wm:Nat)(R:U4->H->Prop)(fr:Fr)(ds:List Deferred)(e:XX)(pm:PM)(s:Fs):Prop where
 YG:e=.normal
 no:s.ds=[]
 k:YU X fn wm R (Zic pm) ⟨fr,ds,s.h,none⟩
end
section
def WO.pnc{Q:XX->Fs->Prop}{x:V6}{t:J}{v:N}(hg:ZP ops ⟨none,.panic x,ty,p,af,g⟩ fr)(hx:Yo fr x=some (.iface t v))(k:Q (.panic (.iface t v)) ⟨fr,ds,h,none⟩):WO X n wm rd ops (⟨none,.panic x,ty,p,af,g⟩::l) ⟨fr,ds,h,none⟩ Q:=by
 refine WO.panic (E:=.none) (h1:=h) hg ?_ rfl k
 show(match Yo fr x with
  | some (.iface t v)=>some (AN.panic (.iface t v),Eff.none)
  | _=>none)=_
 rw[hx]
def ZcJ{x:V6}{t:J}{v:N}(hx:Yo fr x=some v)(ht:(match X.P.underlying t with|some (.interface _)=>false|some _=>true|none=>false)=true):Xm X h (Yo fr) ⟨some d,.makeInterface t x,ty,p,af,g⟩=some (.val (.iface t v),.none):=by
 show(match Yo fr x,X.P.underlying t with
  | some _,some (.interface _)=>none
  | some v,some _=>some (AN.val (.iface t v),Eff.none)
  | _,_=>none)=_
 rw[hx];cases hh:X.P.underlying t with
 | none=>rw[hh]at ht;cases ht
 | some u=>
   rw[hh]at ht;cases u
   case interface=>cases ht
   all_goals rfl
end
end
section
variable{X:Ctx}{n wm:Nat}{rd:O Nat}{ops:Va Oper}{l:U Oper}{rest:Code}
def WO.body{s:Fs}{Q:XX->Fs->Prop}(k:WO X n wm rd ops l s (Yl X n wm rd rest Q)):∃e s',Q e s'/\∀{ρ:Ren}{F:Fence}{a:Act}{w:V9},Inv ρ n s a w->wm<=s.h.size->KO ρ rd F->∀Q':Exit->Act->V9->Prop,(∀e' a' w',Xj wm n ρ s.h w e s' e' a' w'->Q' e' a' w') ->
 wpListIn F 0 X.P ops (Exit.then (rest.wpIn F 0 X.P Q') Q') l a w:=by
 obtain⟨e1,s1,hk,ho⟩:=k.out;have hk:=hk.out;cases e1 with
 | normal=>
   obtain⟨e,s',hq,hj⟩:=hk;obtain⟨_,_,q0,kb⟩:=Y5.1 hj;cases q0;refine⟨e,s',hq,fun{ρ F a w} hi hw hF Q' hQ=>ho _ hi hw hF fun e' a' w' hp=>?_⟩;obtain⟨ρ',he,hi',hst⟩:=hp;cases he;exact wpIn_mono (kb ρ' a' w' F (KB hw hst.size) hi' (hF.mono hst.ext)) fun e2 a2 w2 hp2=>hQ _ _ _ (Xj.trans hi.rel.lt hst hp2)
 | exit id=>
   refine⟨_,s1,hk,fun{ρ F a w} hi hw hF Q' hQ=>ho _ hi hw hF fun e' a' w' hp=>?_⟩;obtain⟨ρ',he,hi',hst⟩:=hp;cases he;exact hQ _ _ _ ⟨ρ',.exit id,hi',hst⟩
 | goto id=>
   refine⟨_,s1,hk,fun{ρ F a w} hi hw hF Q' hQ=>ho _ hi hw hF fun e' a' w' hp=>?_⟩;obtain⟨ρ',he,hi',hst⟩:=hp;cases he;exact hQ _ _ _ ⟨ρ',.goto id,hi',hst⟩
 | ret=>
   refine⟨_,s1,hk,fun{ρ F a w} hi hw hF Q' hQ=>ho _ hi hw hF fun e' a' w' hp=>?_⟩;obtain⟨ρ',he,hi',hst⟩:=hp;cases he;exact hQ _ _ _ ⟨ρ',.ret,hi',hst⟩
 | panic v=>
   refine⟨_,s1,hk,fun{ρ F a w} hi hw hF Q' hQ=>ho _ hi hw hF fun e' a' w' hp=>?_⟩;obtain⟨ρ',he,hi',hst⟩:=hp;cases he with
   | panic hv=>exact hQ _ _ _ ⟨ρ',.panic hv,hi',hst⟩
def EL.mem'{ρ:Ren}{es es':U Vb}(e:EL ρ es es'){x:Vb}(hx:x∈es):∃x'∈es',x'.born=x.born:=by
 induction e with
 | nil=>cases hx
 | cons hk hp hb hv _ ih=>
   rcases Kd.1 hx with rfl|h
   ·exact⟨_,by simp,hb⟩
   ·obtain⟨x',h1,h2⟩:=ih h;exact⟨x',Kf _ h1,h2⟩
def ZyS{s:Fs}{id:Nat}{o:Oper}{t it m Y6 clock d:Nat}{es:U Vb}{T:U Nat}{v:N}{e:XX}{s2:Fs}(ZX:Nat->Z)
 (hops:ops.toList=o::l) (hop:o.op=.next (.tmp t) false) (hgu:o.guard=none) (hfr:s.fr.at t=(Vf it)) (hit:s.h.at it=.iter m clock Y6 none) (hm:s.h.at m=.map es clock) (hck:clock<=Y6) (hborn:Xq clock es=true) (ZnL:wm<=it) (htT:t∉T) (hd:o.dst=some d) (hdn:d<n) (hdT:d∈T) (hv:plain v=true)
 (Zcn:∀x∈es,∃ex s3,(s3.ds=s.ds/\(∀t,t∉T->s3.fr.at t=s.fr.at t)/\(ex=.normal/\ZX x.born=false\/ex=.panic v/\ZX x.born=true))/\∀{ρ:Ren}{F:Fence}{a:Act}{w:V9},Inv ρ n {fr:=QI (ZU T s.fr) o.dst (.tuple #[.bool true,x.key,x.val]),ds:=s.ds,h:=s.h.put it (.iter m clock clock (some x.born)),wr:=s.wr} a w->s.h.size<=(s.h.put it (.iter m clock clock (some x.born))).size->KO ρ rd F->∀Q':Exit->Act->V9->Prop,
   (∀e' a' w',Xj s.h.size n ρ (s.h.put it (.iter m clock clock (some x.born))) w ex s3 e' a' w'->Q' e' a' w')->wpListIn F 0 X.P ops (Exit.then (rest.wpIn F 0 X.P Q') Q') l a w)
 (hover:(∀x∈es,ZX x.born=false)->e≠.normal/\∀{ρ:Ren}{F:Fence}{a:Act}{w:V9},Inv ρ n {s with fr:=QI (ZU T s.fr) o.dst QT,h:=s.h.put it .dead} a w->wm<=(s.h.put it .dead).size->KO ρ rd F->∀Q':Exit->Act->V9->Prop,
   (∀e' a' w',Xj wm n ρ (s.h.put it .dead) w e s2 e' a' w'->Q' e' a' w')->wpListIn F 0 X.P ops (Exit.then (rest.wpIn F 0 X.P Q') Q') l a w)
 (Zli:(∃x∈es,ZX x.born=true)->e=.panic v/\s2= {s with fr:=ZU T s.fr,h:=s.h.put it .dead}):Yq X (.loop (.seq (.region id ops false) rest) n wm rd s) (.code e s2):=by
 refine K7.2 ⟨e,s2,rfl,fun ρ a0 w0 F Zt hi0 hF=>?_⟩;obtain⟨dd,hdr⟩:∃d,d=it:=⟨_,rfl⟩
 have ZjJ:=hi0.fr.val t (by rw[hfr];rfl);rw[hfr]at ZjJ;generalize hpx:a0.tmps.getD t undef=px at ZjJ;cases ZjJ with
 | @ptr _ bi di _ K8=>
 have hoi:=hi0.rel.obj _ _ _ K8;rw[hit]at hoi;obtain⟨rfl,bm,ZFq,ZdN,Zp9,_,K9⟩:=hoi;have K9:=K9 rfl;subst K9;have hom:=hi0.rel.obj _ _ _ ZdN;rw[hm]at hom;obtain⟨_,es',Zzy,hes⟩:=hom;have hilt:=hi0.rel.dom _ _ _ K8;have ZRa:=hi0.rel.dom _ _ _ ZdN;have ZsJ:m≠it:=fun z=>by rw[z,hit]at hm;cases hm
 have hold:∀x∈es'.toList,x.born<clock:=by
  intro x hx;obtain⟨y,hy,_,_,hyb,_⟩:=hes.mem hx;rw[hyb];exact Zag hborn y hy
 have ZhH:∀j b d,ρ j=some (b,d)->b=bi->j≠it->((s.h.at j).live=true->False):=by
  intro j b d hj hbb hne' hl;subst hbb;exact hne' (hi0.rel.inj it j b 0 d K8 hj (by rw[hit];rfl) hl).symm
 have hbne:bm≠bi:=fun z=>ZhH m bm 0 ZdN z ZsJ (by rw[hm];rfl)
 have ZMF:s.h.size=(s.h.put it .dead).size:=rfl
 have Zck:∀{a:Act}{w:V9}{K:Act->V9->Prop}{Q:Exit->Act->V9->Prop}{v:N}{w1:V9},a.tmps.getD t undef=(Vf bi)->(Instr.next ((Vf bi)) false o.type).run X.P w=.ok v w1 ->
  K (a.put o.dst v) w1->(if Region.wanted o (yielded ops a.tmps) then o.wpIn F 0 X.P a w K Q else(∀f,o.about X.P w a.eval=some f->F.fn f)/\K (a.put o.dst undef) w):=by
  intro a w K Q v w1 ht hrun hK;have hw:Region.wanted o (yielded ops a.tmps)=true:=by unfold Region.wanted;rw[hgu]
  rw[if_pos hw];refine⟨fun f hab=>(by unfold Oper.about at hab;rw[hop]at hab;cases hab),?_⟩;have ZjH:o.semAt F.round a.eval=execOp a.eval o:=Oper.semAt_eq _ _ _ fun c hc=>by rw[hop]at hc;cases hc
  have he:a.eval (.tmp t)=(Vf bi):=ht
  have hx:(execOp a.eval o).run X.P w=.ok (.value v) w1:=by
   unfold execOp;rw[hop];simp[he,hrun]
  rw[ZjH,hx];exact hK
 have ZMB:∀t,t∉T->t≠d:=fun t ht z=>by rw[z]at ht;exact ht hdT
 have ZhF:∀(a:Act)(w:V9),Inv ρ n {s with fr:=ZU T s.fr,h:=s.h.put it .dead} a w->a.tmps.getD t undef=(Vf bi):=by
  intro a w hi;have h0:VR ρ ((ZU T s.fr).at t) (a.tmps.getD t undef):=hi.fr.val t (by show Xt ((ZU T s.fr).at t)=false;rw[YV,if_neg htT,hfr];rfl);rw[YV,if_neg htT,hfr]at h0;generalize a.tmps.getD t undef=y at h0;cases h0 with
  | ptr _ h1=>rw[K8]at h1;cases h1;rfl
 have Zp1:(∀x∈es,ZX x.born=false)->∀(a:Act)(w:V9),Inv ρ n {s with fr:=ZU T s.fr,h:=s.h.put it .dead} a w->Stp wm ρ s.h w0 ρ (s.h.put it .dead) w->a.tmps.getD t undef=(Vf bi) ->
  (Instr.next ((Vf bi)) false o.type).run X.P w=.ok QT w->LoopIn F 0 X.P (.seq (.region id ops false) rest) (Xj wm n ρ s.h w0 e s2) a w:=by
  intro hall a w hi hst ht hrun;obtain⟨hne,hover⟩:=hover hall;refine Xo (wpIn_seq (wpIn_region_list ?_));rw[hops];refine Zck ht hrun ?_
  have hio:Inv ρ n {s with fr:=QI (ZU T s.fr) o.dst QT,h:=s.h.put it .dead} (a.put o.dst QT) w:=by
   refine⟨hi.rel,?_,?_⟩
   ·rw[hd];exact hi.fr.set hdn (VR.ZC rfl)
   ·rw[hd];exact hi.ds
  refine hover hio Zt hF _ fun e3 a3 w3 hp=>?_
  have hp2:=Xj.trans hi0.rel.lt hst hp;obtain⟨ρ3,hx3,hi3,XV⟩:=hp2;cases hx3 with
  | normal=>exact(hne rfl).elim
  | exit id=>exact⟨ρ3,.exit id,hi3,XV⟩
  | goto id=>exact⟨ρ3,.goto id,hi3,XV⟩
  | ret=>exact⟨ρ3,.ret,hi3,XV⟩
  | panic hv=>exact⟨ρ3,.panic hv,hi3,XV⟩
 have ZGh:∀seen:Va Nat,(∀b,seen.contains b=true->ZX b=false)->(leftOf es' seen).size=0->∀x∈es,ZX x.born=false:=by
  intro seen ZhD h00 x hx;obtain⟨y,hy,hyb⟩:=hes.mem' hx;refine ZhD _ ?_;cases hc:seen.contains x.born with
  | true=>rfl
  | false=>
    exfalso;have:y∈leftOf es' seen:=Array.mem_filter.2 ⟨Array.mem_toList_iff.1 hy,by rw[hyb,hc];rfl⟩;rw[GT h00]at this;simp at this
 have head:∀(k:Nat)(seen:Va Nat)(last:Nat)(a:Act)(w:V9),(∀b,seen.contains b=true->ZX b=false)->(leftOf es' seen).size<=k->clock<=last->w.heap[bi]? =some (.mapIter (some bm) clock seen last)->w.heap[bm]? =some (.map es' clock) ->
  Inv ρ n {s with fr:=ZU T s.fr,h:=s.h.put it .dead} a w ->
  Stp wm ρ s.h w0 ρ (s.h.put it .dead) w->LoopIn F 0 X.P (.seq (.region id ops false) rest) (Xj wm n ρ s.h w0 e s2) a w:=by
  intro k
  induction k with
  | zero=>
    intro seen last a w ZhD hk hlast hblk Za1 hi hst;have ht:=ZhF a w hi;rcases Zde (P:=X.P) o.type hblk Za1 hold (hlast) with⟨h00,hrun⟩|⟨e',he',_⟩
    ·exact Zp1 (ZGh seen ZhD h00) a w hi hst ht hrun
    ·have:=G3▸List.length_pos_of_mem he';omega
  | succ k ihk=>
    intro seen last a w ZhD hk hlast hblk Za1 hi hst;have ht:=ZhF a w hi;rcases Zde (P:=X.P) o.type hblk Za1 hold (hlast) with⟨h00,hrun⟩|⟨e',he',w1,hw1,hsame,hrun⟩
    ·exact Zp1 (ZGh seen ZhD h00) a w hi hst ht hrun
    ·have hmem:=(mem_left he').1;obtain⟨x,hx,hkey,hkp,hbn,hval⟩:=hes.mem hmem;obtain⟨ex,s3,⟨ZzB,hwr,hpn⟩,hbody⟩:=Zcn x hx;have Zmd:bi<w.heap.size:=(hi.rel.dom _ _ _ K8).2;have ZMD:bm<w.heap.size:=(hi.rel.dom _ _ _ ZdN).2;obtain⟨w2,hw2⟩:∃w2,w2=w1.putObj bi (.mapIter (some bm) clock (seen.push e'.born) clock):=⟨_,rfl⟩
     rw[<-hw2]at hrun;have hsz2:w2.heap.size=w.heap.size:=by rw[hw2,World.putObj_size,hw1]
     have hother:∀k,k≠bi->w2.heap[k]? =w.heap[k]?:=fun k hk=>by rw[hw2,World.putObj_heap_other hk,hw1]
     have Zqa:w2.heap[bi]? =some (.mapIter (some bm) clock (seen.push e'.born) clock):=by rw[hw2];exact World.putObj_heap_same (by rw[hw1];exact Zmd)
     have Zaa:Same w w2:=by rw[hw2];exact⟨hsame.os,hsame.tape,hsame.output⟩
     have hrel:Rel ρ (s.h.put it (.iter m clock clock (some x.born))) w2:=by
      refine Zem hi.rel K8 ZhH hother hsz2 ⟨rfl,bm,seen.push e'.born,ZdN,Zqa,fun z hz=>?_,fun z=>by cases z⟩;cases hz;rw[<-hbn];simp
     have hie:Inv ρ n {fr:=QI (ZU T s.fr) o.dst (.tuple #[.bool true,x.key,x.val]),ds:=s.ds,h:=s.h.put it (.iter m clock clock (some x.born)),wr:=s.wr} (a.put o.dst (.tuple #[.bool true,e'.key,e'.val])) w2:=by
      refine⟨hrel,?_,?_⟩
      ·rw[hd];refine hi.fr.set hdn (.tuple _ _ rfl fun j y y' p q=>?_)
       match j,p,q with
       | 0,p,q=>simp at p q;subst p q;exact .bool true
       | 1,p,q=>simp at p q;subst p q;rw[hkey];exact VR.ZC hkp
       | 2,p,q=>simp at p q;subst p q;exact hval
       | j+3,p,q=>simp at p
      ·rw[hd];exact hi.ds
     refine Xo (wpIn_seq (wpIn_region_list ?_));rw[hops];refine Zck ht hrun<|hbody hie Vh hF _ fun e3 a3 w3 hp=>?_
     obtain⟨ρ3,hx3,hi3,XV⟩:=hp;obtain⟨q1,q2⟩:=Za6 hrel XV;have Zlj:∀b,b<w2.heap.size->w3.heap[b]? =w2.heap[b]?:=fun b hb=>XV.frame b hb fun i d hi' e _=>by have:=hrel.lt i _ e;simp at this hi';omega
     have hinv:Inv ρ n {s with fr:=ZU T s.fr,h:=s.h.put it .dead} a3 w3:=by
      refine⟨?_,⟨hi3.fr.size,fun t hany=>?_⟩,?_⟩
      ·refine(KY (i:=it) q1).congr rfl fun i=>?_
       rw[H.XM,H.XM];by_cases hii:i=it/\i<s.h.size
       ·rw[if_pos hii,if_pos (by simpa using hii)]
       ·rw[if_neg hii,if_neg (by simpa using hii),H.XM,if_neg hii]
      ·change Xt ((ZU T s.fr).at t)=false at hany
       show VR ρ ((ZU T s.fr).at t) _;rw[YV]at hany ⊢;by_cases Zam:t∈T
       ·rw[if_pos Zam]at hany;cases hany
       ·rw[if_neg Zam]at hany ⊢;have h0:=hi.fr.val t (by show Xt ((ZU T s.fr).at t)=false;rw[YV,if_neg Zam];exact hany);have h0:VR ρ ((ZU T s.fr).at t) _:=h0;rw[YV,if_neg Zam]at h0;have h1:=hi3.fr.val t (by rw[hwr t Zam];exact hany);rw[hwr t Zam]at h1;exact VR.back XV.ext h0 h1
      ·have h0:DsR ρ s.ds a.defers:=hi.ds;have h1:=hi3.ds;rw[ZzB]at h1;exact DsR.back XV.ext h0 h1
     have hstp:Stp wm ρ s.h w0 ρ (s.h.put it .dead) w3:=by
      refine⟨Ren.le_refl _,hst.size,hst.keep,hst.own,hst.live,XV.os.trans (Zaa.os.trans hst.os),XV.tape.trans (Zaa.tape.trans hst.tape),XV.output.trans (Zaa.output.trans hst.output),
       KB hst.Y8 (by rw[<-hsz2];exact XV.Y8),fun b hb hno=>?_,fun i b d p q=>by rw[p]at q;cases q⟩
      have hbb:b≠bi:=fun z=>by subst z;exact hno it 0 ZnL K8 (by rw[hit];rfl)
      have:=hst.Y8;rw[Zlj b Vg,hother b hbb,hst.frame b hb hno]
     rcases hpn with⟨rfl,hpf⟩|⟨rfl,hpt⟩
     ·cases hx3;show LoopIn F 0 X.P _ _ a3 w3
      exact ihk (seen.push e'.born) clock a3 w3 (fun b hb=>by
       rw[contains_push]at hb;rcases Bool.or_eq_true_iff.1 hb with z|z
       ·exact ZhD b z
       ·have:b=e'.born:=by simpa using z
        rw[this,hbn];exact hpf) (by have:=left_shrinks es' seen e' he';omega) Vh (by rw[Zlj bi Vg];exact Zqa) (by rw[Zlj bm Vg,hother bm hbne];exact Za1) hinv hstp
     ·obtain⟨he,ZQ2⟩:=Zli ⟨x,hx,hpt⟩;cases hx3 with
      | panic hv3=>
        show Xj wm n ρ s.h w0 e s2 _ a3 w3;rw[he,ZQ2];have:=VR.YS hv hv3;subst this;exact⟨ρ,.panic (VR.ZC hv),hinv,hstp⟩
 have ZnM:Stp wm ρ s.h w0 ρ (s.h.put it .dead) w0:=by
  have kk:=JD (h:=s.h) (A:=.dead) ZnL (by rw[hit];rfl);exact⟨Ren.le_refl _,K1 _,kk.keep,kk.own,kk.live,rfl,rfl,rfl,K1 _,fun _ _ _=>rfl,fun i b d e e'=>by rw[e]at e';cases e'⟩
 refine head _ #[] Y6 a0 w0 (fun b hb=>by simp at hb) Vh hck Zp9 Zzy ⟨KY hi0.rel,⟨hi0.fr.size,fun t hany=>?_⟩,hi0.ds⟩ ZnM
 change Xt ((ZU T s.fr).at t)=false at hany
 show VR ρ ((ZU T s.fr).at t) _;rw[YV]at hany ⊢;by_cases ht:t∈T
 ·rw[if_pos ht]at hany;cases hany
 ·rw[if_neg ht]at hany ⊢;exact hi0.fr.val t hany
def Agr(T:U Nat)(fr fr':Fr):Prop:=∀t v,T.contains t=false->fr.at t=v->fr'.at t=v
def Agr.at{T:U Nat}{fr fr':Fr}(a:Agr T fr fr'){t:Nat}{v:N}(ht:T.contains t=false)(h:fr.at t=v):fr'.at t=v:=a t v ht h
def MFr(T:U Nat)(fr f:Fr):Prop:=∀t,t∉T->f.at t=fr.at t
def MFr.z{T:U Nat}{fr:Fr}:MFr T fr fr:=fun _ _=>rfl
def MFr.s{T:U Nat}{fr f:Fr}{i:Nat}{v:N}(hi:T.contains i=true)(h:MFr T fr f):MFr T fr (Tr.set f i v):=fun t ht=>by
 have hne:t≠i:=fun z=>ht (by subst z;rwa[Gs]at hi)
 have:=Zbh (fr:=f) (d:=some i) (v:=v) (t:=t);rw[show QI f (some i) v=Tr.set f i v from rfl]at this;rw[this,if_neg (fun z=>hne (Oi0 z).symm)];exact h t ht
structure ZtM(T:List Nat)(fr:Fr)(ds:List Deferred)(v:Value)(p:Bool)(e:XX)(s:Fs):Prop where
 ds:s.ds=ds
 fr:MFr T fr s.fr
 e:e=.normal/\p=false\/e=.panic v/\p=true
def ZtM.YG{T:U Nat}{fr f:Fr}{ds:U Vc}{v:N}{h:H}(k:MFr T fr f):ZtM T fr ds v false .normal ⟨f,ds,h,none⟩:=⟨rfl,k,.inl ⟨rfl,rfl⟩⟩
def ZtM.panic{T:U Nat}{fr f:Fr}{ds:U Vc}{v:N}{h:H}(k:MFr T fr f):ZtM T fr ds v true (.panic v) ⟨f,ds,h,none⟩:=⟨rfl,k,.inr ⟨rfl,rfl⟩⟩
structure Zxn(Q:XX->Fs->Prop)(e:XX)(s:Fs):Prop where
 nn:e≠.normal
 k:Q e s
def Zxn.exit{Q:XX->Fs->Prop}{s:Fs}{id:Nat}(k:Q (.exit id) s):Zxn Q (.exit id) s:=⟨(fun z=>by cases z),k⟩
def ZtP{κ ν:Type}(kv:κ->N)(vv:ν->N)(h:H)(it:Nat)(x:κ×ν):Prop:=ZcT h ((Vf it))=some (.tuple #[kv x.1,vv x.2])
section
variable{κ ν:Type}{kv:κ->N}{vv:ν->N}{ll:U (κ×ν)}{bs:U Nat}
def Zjp:∀{ll:U (κ×ν)}{bs:U Nat}{x:Vb},x∈Xc kv vv ll bs->∃(j:Nat) (y:κ×ν) (b:Nat),ll[j]? =some y/\bs[j]? =some b/\x=⟨kv y.1,vv y.2,b⟩:=by
 intro ll bs x hx;obtain⟨j,hj⟩:=Gp.1 hx;unfold Xc at hj;rw[List.getElem?_zipWith]at hj;cases h1:ll[j]? with
 | none=>rw[h1]at hj;simp at hj
 | some y=>
   cases h2:bs[j]? with
   | none=>rw[h1,h2]at hj;simp at hj
   | some b=>rw[h1,h2]at hj;simp at hj;exact⟨j,y,b,h1,h2,hj.symm⟩
def Zuq{j:Nat}{y:κ×ν}{b:Nat}(h1:ll[j]? =some y)(h2:bs[j]? =some b):(⟨kv y.1,vv y.2,b⟩:Vb)∈Xc kv vv ll bs:=by
 refine Gp.2 ⟨j,?_⟩;unfold Xc;rw[List.getElem?_zipWith,h1,h2]
def ZhB{b:Nat}:∀{ll:U (κ×ν)}{bs:U Nat},b∉bs->K4 b (Xc kv vv ll bs)=true
 | [],_,_=>by unfold Xc;simp[K4]
 | _::_,[],_=>by unfold Xc;simp[K4]
 | x::ll,b'::bs,h=>by
   have ih:=ZhB (ll:=ll) (bs:=bs) (b:=b) (fun z=>h (by simp[z]));unfold Xc at ih ⊢;rw[List.zipWith_cons_cons];unfold K4;have:Nat.beq b' b=false:=by rw[Gh];intro q;exact h (by simp[Nb0 q])
   dsimp only;rw[this];exact ih
def Zep{Y6:Nat}:∀{ll:U (κ×ν)}{bs:U Nat},bs.Nodup->(∀b∈bs,b<Y6)->Xq Y6 (Xc kv vv ll bs)=true
 | [],_,_,_=>by unfold Xc;simp[Xq]
 | _::_,[],_,_=>by unfold Xc;simp[Xq]
 | x::ll,b::bs,hn,hl=>by
   rw[GC]at hn;have ih:=Zep (ll:=ll) (bs:=bs) hn.2 (fun b hb=>hl b (by simp[hb]));have hno:K4 b (Xc kv vv ll bs)=true:=ZhB (ll:=ll) hn.1;unfold Xc at ih hno ⊢;rw[List.zipWith_cons_cons];unfold Xq;dsimp only;rw[hno,ih];have:Nat.blt b Y6=true:=by rw[G6];exact hl b (by simp)
   rw[this];rfl
def ZgD:∀{ll:U (κ×ν)}{bs:U Nat}{j:Nat}{y:κ×ν}{b:Nat},bs.Nodup->ll[j]? =some y->bs[j]? =some b->Zkx b (Xc kv vv ll bs)=some ⟨kv y.1,vv y.2,b⟩
 | [],_,_,_,_,_,h,_=>by simp at h
 | _::_,[],_,_,_,_,_,h=>by simp at h
 | x::ll,b'::bs,j,y,b,hn,h1,h2=>by
   rw[GC]at hn;unfold Xc;rw[List.zipWith_cons_cons];unfold Zkx;dsimp only;cases j with
   | zero=>
     simp at h1 h2;subst h1 h2;rw[V4];rfl
   | succ j=>
     simp at h1 h2
     have:Nat.beq b' b=false:=by
      rw[Gh];intro q;have:=Nb0 q;subst this;exact hn.1 (Gp.2 ⟨j,h2⟩)
     rw[this];exact ZgD hn.2 h1 h2
end
section
variable{wm:Nat}{G Gr:U (Ast wm)}{h h0:H}{T0:Nat->Prop}{fr:Fr}{ds:U Vc}{ty:J}{p:String}{af:Va Edge}{g:O (Nat×Z)}{κ ν:Type}{kv:κ->N}{vv:ν->N}{ll:U (κ×ν)}{d:Nat}
def WO.rng{Q:XX->Fs->Prop}{t kt vt:J}{x:V6}{i:Nat}(hg:ZP ops ⟨some d,.range t x,ty,p,af,g⟩ fr)(hd:Nat.blt d n=true)(hS:Sp wm T0 h0 G h)(hu:X.P.underlying t=some (.map kt vt))(hx:Yo fr x=some (.map (some i)))(s:MapAt kv vv h (some i) ll)
 (k:∀h' b bs Y6,Sp wm T0 h0 (ob wm b (.iter i Y6 Y6 none)::G) h'->h'.at i=.map (Xc kv vv ll bs) Y6->bs.length=ll.length/\bs.Nodup/\(∀x∈bs,x<Y6)->WO X n wm rd ops l ⟨Tr.set fr d ((Vf b)),ds,h',none⟩ Q):
 WO X n wm rd ops (⟨some d,.range t x,ty,p,af,g⟩::l) ⟨fr,ds,h,none⟩ Q:=by
 rcases s.mem with⟨q,_⟩|⟨i',bs,Y6,q,h1,h2,h3,h4⟩
 ·cases q
 ·cases q;refine WO.v (v:=Jd h) (E:=.new (.iter i Y6 Y6 none)) (h1:=h.push (.iter i Y6 Y6 none)) hg hd ?_ (Zom h rfl) (k (h.push (.iter i Y6 Y6 none)) h.size bs Y6 (Zeo rfl hS) ?_ ⟨h2,h3,h4⟩)
  ·show(match Yo fr x with
    | some x=>vE (ZkL X.P h t x)
    | none=>none)=_
   rw[hx];dsimp only;unfold ZkL;simp only[hu,h1]
   rfl
  ·rw[WQ (YH h1 rfl),h1]
def Zrn{x:V6}{it:Nat}{y:κ×ν}(hx:Yo fr x=some ((Vf it)))(he:ZtP kv vv h it y):Xm X h (Yo fr) ⟨some d,.entry x,ty,p,af,g⟩=some (.val (.tuple #[kv y.1,vv y.2]),.none):=by
 show(match Yo fr x with
  | some it=>vN (ZcT h it)
  | none=>none)=_
 rw[hx];dsimp only;rw[show ZcT h ((Vf it))=_ from he];rfl
end
end
section
variable{X:Ctx}{n wm:Nat}{rd:O Nat}{ops:Va Oper}{l:U Oper}{fr:Fr}{ds:U Vc}{h h1 h2 h0:H}{T:Nat->Prop}{G Gr Ga Gb:U (Ast wm)}
end
end Go.ZF
end
end
section
namespace Go.Lf
end Go.Lf
end
section
noncomputable section
namespace Go.ZF
open Go.Lf
section
variable{X:Ctx}{n wm:Nat}{rd:O Nat}{ops:Va Oper}{l:U Oper}{rest:Code}
section
variable{wm:Nat}{G Gr:U (Ast wm)}{h h0:H}{T0:Nat->Prop}{fr:Fr}{ds:U Vc}{κ ν:Type}{kv:κ->N}{vv:ν->N}{ll:U (κ×ν)}{d:Nat}
structure RK(it:Nat)(h h2:H):Prop where
 it_:∃a b c d,h.at it=.iter a b c d
 at_:∀i,i≠it->h2.at i=h.at i
def ZlK.rk{κ ν:Type}{kv:κ->N}{vv:ν->N}{it:Nat}{h h2:H}{m:Nat}{l:U (κ×ν)}(s:ZlK kv vv h.size h (some m) l)(k:RK it h h2):ZlK kv vv h.size h2 (some m) l:=
 ⟨s.at_.keep fun i e=>(by
   cases e;refine k.at_ m fun z=>?_
   obtain⟨a,b,c,d,e1⟩:=k.it_;rcases s.at_.mem with⟨q,_⟩|⟨j,bs,Y6,q,h1,_⟩
   ·cases q
   ·cases q;rw[z,e1]at h1;cases h1),s.low⟩
end
end
section
variable{P:V7}
end
section
variable{X:Ctx}{n wm:Nat}{rd:O Nat}{ops:Va Oper}{ol:U Oper}{fr:Fr}{ds:U Vc}{h h0:H}{ty:J}{p:String}{af:Va Edge}{g:O (Nat×Z)}{T:Nat->Prop}{G Gr:U (Ast wm)}{d l df:Nat}{LO:YD}{ps:Va Tmp}{Yf bd:Code}
def Qt{α β:Type}{body:α->(α->O β)->O β}(C:α->β->Prop)(hb:∀next:α->O β,(∀x r,next x=some r->C x r)->∀x r,body x next=some r->C x r):∀F x r,loop F body x=some r->C x r:=by
 intro F
 induction F with
 | zero=>intro x r h;cases h
 | succ F ih=>intro x r h;exact hb _ ih x r h
def dne(c:Code):YD->YD
 | .loop _ _ fr n ps Yf bd df=>.loop .done (some c) fr n ps Yf bd df
 | A=>A
def lst(b:Z)(c:Code)(A:YD):YD:=bif b then dne c A else A
inductive Zvx:XX->Code->Prop
 | ret:Zvx .ret .ret
 | exit (id:Nat):Zvx (.exit id) (.exit id)
structure BdS(n lo l:Nat)(fr:Fr)(ps:Array Tmp)(Yf bd:Code)(df:Nat)(R:Bool->H->Prop)(e:XX)(s:Fs):Prop where
 out:s.h.at l=.loop .busy none fr n ps Yf bd df/\
  ((e=.normal/\∀h',(lo<=l->Up lo (fun i=>i=l) s.h h')->h'.at l=.loop .ready none fr n ps Yf bd df->R true h')\/
   (∃c,Zvx e c/\∀h',(lo<=l->Up lo (fun i=>i=l) s.h h')->h'.at l=.loop .done (some c) fr n ps Yf bd df->R false h'))
structure AsS(X:Ctx)(n wm lo l:Nat)(fr:Fr)(ps:Array Tmp)(Yf bd:Code)(df:Nat)(R:Bool->H->Prop)(e:XX)(s:Fs):Prop where
 out:e=.normal/\s.h.at l=.loop .ready none fr n ps Yf bd df/\∀h1,(lo<=l->Up lo (fun i=>i=l) s.h h1)->h1.at l=.loop .busy none fr n ps Yf bd df->WC X n wm (some l) bd ⟨s.fr,s.ds,h1,s.wr⟩ (BdS n lo l fr ps Yf bd df R)
def ZrD.mkS{l:Nat}{args:U N}{fr WY:Fr}{ps:Va Tmp}{Yf bd:Code}{df:Nat}{R:Z->H->Prop}(lo:Nat)(hat:h.at l=.loop .ready none fr n ps Yf bd df)(hw:wm<=l)(hl:Nat.beq args.length ps.toList.length=true)(hs:XJ (ps.toList.zip args) n fr=some WY)
 (k:WC X n wm (some l) Yf ⟨WY,[],h,none⟩ (AsS X n wm lo l fr ps Yf bd df R)):ZrD X l args.toArray wm h R:=by
 obtain⟨e1,s1,⟨rfl,h1,k1⟩,j1⟩:=k;have o1:(s1.h.at l).own=true:=by rw[h1];rfl
 have s1l:=YH h1 rfl;obtain⟨e2,s2,⟨h2,k2⟩,j2⟩:=k1 (s1.h.put l (.loop .busy none fr n ps Yf bd df)) (fun hl=>Up.put hl o1) (Z4 s1l _);have o2:(s2.h.at l).own=true:=by rw[h2];rfl
 have s2l:=YH h2 rfl
 have key:∃b A,R b (s2.h.put l A)/\QE l e2 s2=some (.fin (.ret (.bool b)) (s2.h.put l A)):=by
  rcases k2 with⟨rfl,k2⟩|⟨c,hx,k2⟩
  ·refine⟨true,_,k2 _ (fun hl=>Up.put hl o2) (Z4 s2l _),?_⟩;unfold QE;rw[h2]
  ·refine⟨false,_,k2 _ (fun hl=>Up.put hl o2) (Z4 s2l _),?_⟩;unfold QE;rw[h2];cases hx<;>rfl
 obtain⟨b,A,hR,hev⟩:=key;refine⟨b,s2.h.put l A,hR,?_⟩
 classical
 let ih:Qn->O YP:=fun j=>if j=.code Yf n wm (some l) ⟨WY,[],h,none⟩ then some (.code .normal s1) else QK (.code bd n wm (some l) {s1 with h:=s1.h.put l (.loop .busy none fr n ps Yf bd df)}) (.code e2 s2) j
 have HI:∀j r,ih j=some r->Yq X j r:=by
  intro j r e;dsimp only[ih]at e;split at e
  ·rename_i hj;cases e;rw[hj];exact j1
  ·exact Y9 (X:=X) j2 j r e
 refine WA (C:=cfg X fun _=>false) (ih:=ih) HI ?_;unfold Zbx;rw[hat];have hl':Nat.beq args.toArray.toList.length ps.toList.length=true:=hl;dsimp only;rw[Nm0 hw,hl'];simp only[Bool.and_self,Cq1];have hs':XJ (ps.toList.zip args.toArray.toList) n fr=some WY:=hs;rw[hs'];dsimp only;have i1:ih (.code Yf n wm (some l) {fr:=WY,ds:=[],h:=h})=some (.code .normal s1):=by dsimp only[ih];rw[if_pos rfl]
 rw[i1];show UQ ih l bd n wm .normal s1=_;unfold UQ;dsimp only;rw[h1];dsimp only
 have i2:ih (.code bd n wm (some l) {s1 with h:=s1.h.put l (.loop .busy none fr n ps Yf bd df)})=some (.code e2 s2):=by
  dsimp only[ih];split
  ·rename_i hj;exfalso;injection hj with _ _ _ _ hs
   have:({s1 with h:=s1.h.put l (.loop .busy none fr n ps Yf bd df)}:Fs).h.at l=h.at l:=by rw[hs]
   dsimp only at this;rw[Z4 s1l,hat]at this;cases this
  ·exact Xa _ _
 rw[i2];exact hev
def WO.ZPG{Q:XX->Fs->Prop}{fo:V6}{xs:Va V6}{ts:Va J}{vs:U N}{n2:Nat}{Qp WY:Fr}{as2 bd2:Code}(hg:ZP ops ⟨some d,.call {callee:=.value fo,args:=xs,argTypes:=ts},ty,p,af,g⟩ fr)(hd:Nat.blt d n=true)(hf:Yo fr fo=some (.func (.yield l) #[] #[]))(hx:evs (Yo fr) xs.toList=some vs)
 (hS:Sp wm T h0 G h) (pk:Pk G (ob wm l LO) Gr) (hLO:LO=.loop .ready none Qp n2 ps as2 bd2 df) (hl:Nat.beq vs.length ps.toList.length=true) (hs:XJ (ps.toList.zip vs) n2 Qp=some WY)
 (k:WC X n2 wm (some l) as2 ⟨WY,[],h,none⟩ (AsS X n2 wm wm l Qp ps as2 bd2 df (fun b h'=>WO X n wm rd ops ol ⟨Tr.set fr d (.bool b),ds,h',none⟩ Q))):
 WO X n wm rd ops (⟨some d,.call {callee:=.value fo,args:=xs,argTypes:=ts},ty,p,af,g⟩::ol) ⟨fr,ds,h,none⟩ Q:=by
 obtain⟨h1,h2,h3⟩:=hS.get pk;have hat:=h1.trans hLO;exact WO.yld hg hd hf hx hat (Nb0 hl) (ZrD.mkS (lo:=wm) hat h2 hl hs k) fun b h' hk=>hk
def AsS.sp{Qp:Fr}{R:Z->H->Prop}(hLO:LO=.loop .ready none fr n ps Yf bd df)(hS:Sp wm T h0 G h)(pk:Pk G (ob wm l LO) Gr)(k:∀h1,Sp wm T h0 (ob wm l (bsy LO)::Gr) h1->WC X n wm (some l) bd ⟨Qp,ds,h1,none⟩ (BdS n wm l fr ps Yf bd df R)):AsS X n wm wm l fr ps Yf bd df R .normal ⟨Qp,ds,h,none⟩:=by
 obtain⟨h1,h2,h3⟩:=hS.get pk;refine⟨⟨rfl,h1.trans hLO,fun h' u e=>k h' ?_⟩⟩;exact hS.one pk (u h2) (fun _ q=>q) ⟨by rw[e,hLO];rfl,h2,by rw[hLO];rfl⟩ fun _ q=>.inl q
def BdS.sp{Qp:Fr}{R:Z->H->Prop}(hLO:LO=.loop .ready none fr n ps Yf bd df)(hS:Sp wm T h0 G h)(pk:Pk G (ob wm l (bsy LO)) Gr)(k:∀h1,Sp wm T h0 (ob wm l LO::Gr) h1->R true h1):BdS n wm l fr ps Yf bd df R .normal ⟨Qp,ds,h,none⟩:=by
 obtain⟨h1,h2,h3⟩:=hS.get pk;refine⟨⟨h1.trans (by rw[hLO];rfl),.inl ⟨rfl,fun h' u e=>k h' ?_⟩⟩⟩;exact hS.one pk (u h2) (fun _ q=>q) ⟨by rw[e,hLO],h2,by rw[hLO];rfl⟩ fun _ q=>.inl q
def BdS.stop{Qp:Fr}{R:Z->H->Prop}{e:XX}{c:Code}(hx:Zvx e c)(hLO:LO=.loop .ready none fr n ps Yf bd df)(hS:Sp wm T h0 G h)(pk:Pk G (ob wm l (bsy LO)) Gr)(k:∀h1,Sp wm T h0 (ob wm l (lst true c LO)::Gr) h1->R false h1):BdS n wm l fr ps Yf bd df R e ⟨Qp,ds,h,none⟩:=by
 obtain⟨h1,h2,h3⟩:=hS.get pk;refine⟨⟨h1.trans (by rw[hLO];rfl),.inr ⟨c,hx,fun h' u e=>k h' ?_⟩⟩⟩;exact hS.one pk (u h2) (fun _ q=>q) ⟨by rw[e,hLO];rfl,h2,by rw[hLO];rfl⟩ fun _ q=>.inl q
structure RgS(X:Ctx)(wm l:Nat)(fr:Fr)(n:Nat)(ps:Array Tmp)(Yf bd:Code)(df:Nat)(ds:List Deferred)(Q:XX->Fs->Prop)(h:H):Prop where
 low:wm<=l
 k:(h.at l=.loop .ready none fr n ps Yf bd df/\∀h',Up wm (fun i=>i=l) h h'->Q .normal ⟨fr,⟨.collected df,#[]⟩::ds,h',none⟩)\/
  (∃c,h.at l=.loop .done (some c) fr n ps Yf bd df/\∀h',Up wm (fun i=>i=l) h h'->WC X n wm none c ⟨fr,⟨.collected df,#[]⟩::ds,h',none⟩ Q)
def RgS.sp{Q:XX->Fs->Prop}(hLO:LO=.loop .ready none fr n ps Yf bd df)(hS:Sp wm T h0 G h)(pk:Pk G (ob wm l LO) Gr)(k:∀h',Sp wm T h0 Gr h'->Q .normal ⟨fr,⟨.collected df,#[]⟩::ds,h',none⟩):RgS X wm l fr n ps Yf bd df ds Q h:=by
 obtain⟨h1,h2,h3⟩:=hS.get pk;refine⟨h2,.inl ⟨h1.trans hLO,fun h' u=>k h' ?_⟩⟩;exact Sp.step (Ga:=[ob wm l LO]) (Gb:=[]) (hS.perm pk.perm) u (fun i e=>⟨_,Q2.2 rfl,e⟩) Z7.nil fun i ⟨A,m,f⟩=>by simp at m
def RgS.stop{Q:XX->Fs->Prop}{c:Code}(hLO:LO=.loop .ready none fr n ps Yf bd df)(hS:Sp wm T h0 G h)(pk:Pk G (ob wm l (lst true c LO)) Gr)(k:∀h',Sp wm T h0 Gr h'->WC X n wm none c ⟨fr,⟨.collected df,#[]⟩::ds,h',none⟩ Q):RgS X wm l fr n ps Yf bd df ds Q h:=by
 obtain⟨h1,h2,h3⟩:=hS.get pk;refine⟨h2,.inr ⟨c,h1.trans (by rw[hLO];rfl),fun h' u=>k h' ?_⟩⟩;exact Sp.step (Ga:=[ob wm l (lst true c LO)]) (Gb:=[]) (hS.perm pk.perm) u (fun i e=>⟨_,Q2.2 rfl,e⟩) Z7.nil fun i ⟨A,m,f⟩=>by simp at m
def WC.ZHm{Q:XX->Fs->Prop}{gg:V6}{f:V8}{first cap:U N}(hS:Sp wm T h0 G h)(hg:Yo fr gg=some (.func (.func f) first.toArray cap.toArray))(hf:(X.fns.get f).isSome=true)
 (k:∀h' l df LO,LO=YD.loop .ready none fr n ps Yf bd df->Sp wm T h0 (ob wm l LO::ob wm df .deferred::G) h'->WR X f (first++([Value.func (.yield l) #[] #[]]++cap)).toArray wm h' (fun _ h2=>RgS X wm l fr n ps Yf bd df ds Q h2)):
 WC X n wm none (.rangeFunc gg ps Yf bd) ⟨fr,ds,h,none⟩ Q:=by
 have s1:Sp wm T h0 (ob wm h.size .deferred::G) (h.push .deferred):=Zeo rfl hS
 have s2:Sp wm T h0 (ob wm (h.size+1) (.loop .ready none fr n ps Yf bd h.size)::ob wm h.size .deferred::G) ((h.push .deferred).push (.loop .ready none fr n ps Yf bd h.size)):=by
  have:=Zeo (A:=.loop .ready none fr n ps Yf bd h.size) rfl s1
  rwa[H.size_push]at this
 obtain⟨fn,hf⟩:=GJ.1 hf;obtain⟨e,h3,⟨v,rfl,hr⟩,hj⟩:=k _ _ _ _ rfl s2
 have hac:Uz (cfg X fun _=>false).X ((h.push .deferred).push (.loop .ready none fr n ps Yf bd h.size)) (.func (.func f) first.toArray cap.toArray) [Value.func (.yield (h.size+1)) #[] #[]]=some (.enter f (first++([Value.func (.yield (h.size+1)) #[] #[]]++cap)).toArray,.none):=by
  unfold Uz;have:(cfg X fun _=>false).X.fns.get f=some fn:=hf;dsimp only;rw[this];simp only[Gc]
 rcases hr.k with⟨hat,hk⟩|⟨c,hat,hk⟩
 ·refine⟨.normal,_,hk (h3.put (h.size+1) (.loop .exhausted none fr n ps Yf bd h.size)) (Up.put hr.low (by rw[hat];rfl)),?_⟩;refine Y5.2 (QF (C:=cfg X fun _=>false) (ih:=QK (.call f _ wm _) (.fin (.ret v) h3)) (Y9 hj) ?_);show Xv (cfg X fun _=>false) _ gg n wm none (h.size+1) ⟨fr,⟨.collected h.size,#[]⟩::ds,(h.push .deferred).push (.loop .ready none fr n ps Yf bd h.size),none⟩=_;unfold Xv;dsimp only;rw[hg];dsimp only;rw[hac];dsimp only;unfold Je;rw[Xa];dsimp only;rw[hat]
  rfl
 ·obtain⟨e2,s2,hq,hj2⟩:=hk (h3.put (h.size+1) (.loop .exhausted (some c) fr n ps Yf bd h.size)) (Up.put hr.low (by rw[hat];rfl));refine⟨e2,s2,hq,?_⟩
  classical
  let ih:Qn->O YP:=fun j=>if j=.code c n wm none ⟨fr,⟨.collected h.size,#[]⟩::ds,h3.put (h.size+1) (.loop .exhausted (some c) fr n ps Yf bd h.size),none⟩ then some (.code e2 s2) else QK (.call f (first++([Value.func (.yield (h.size+1)) #[] #[]]++cap)).toArray wm ((h.push .deferred).push (.loop .ready none fr n ps Yf bd h.size))) (.fin (.ret v) h3) j
  have HI:∀j r,ih j=some r->Yq X j r:=by
   intro j r e;dsimp only[ih]at e;split at e
   ·rename_i hj';cases e;rw[hj'];exact hj2
   ·exact Y9 (X:=X) hj j r e
  refine Y5.2 (QF (C:=cfg X fun _=>false) (ih:=ih) HI ?_);show Xv (cfg X fun _=>false) _ gg n wm none (h.size+1) ⟨fr,⟨.collected h.size,#[]⟩::ds,(h.push .deferred).push (.loop .ready none fr n ps Yf bd h.size),none⟩=_;unfold Xv;dsimp only;rw[hg];dsimp only;rw[hac];dsimp only;unfold Je
  have i1:ih (.call f (first++([Value.func (.yield (h.size+1)) #[] #[]]++cap)).toArray wm ((h.push .deferred).push (.loop .ready none fr n ps Yf bd h.size)))=some (.fin (.ret v) h3):=by
   dsimp only[ih];split
   ·rename_i hj';cases hj'
   ·exact Xa _ _
  rw[i1];dsimp only;rw[hat];show ih (.code c n wm none _)=_;dsimp only[ih];rw[if_pos rfl]
structure JnP{α β:Type}(I:α->Fs->Prop)(j:α->Option β)(r:β)(Q:XX->Fs->Prop)(e:XX)(s:Fs):Prop where
 out:(e=.normal/\∃x,j x=some r/\I x s)\/(e≠.normal/\Q e s)
def JnP.YG{α β:Type}{I:α->Fs->Prop}{j:α->O β}{r:β}{Q:XX->Fs->Prop}{s:Fs}(x:α)(h:j x=some r)(i:I x s):JnP I j r Q .normal s:=⟨.inl ⟨rfl,x,h,i⟩⟩
def JnP.pass{α β:Type}{I:α->Fs->Prop}{j:α->O β}{r:β}{Q:XX->Fs->Prop}{e:XX}{s:Fs}(h:e≠.normal)(q:Q e s):JnP I j r Q e s:=⟨.inr ⟨h,q⟩⟩
def WC.jnP{Q:XX->Fs->Prop}{c:Code}{s:Fs}{α β:Type}{r:β}(I:α->Fs->Prop)(j:α->O β)(k:∀x s',j x=some r->I x s'->Q .normal s')(hc:WC X n wm rd c s (JnP I j r Q)):WC X n wm rd c s Q:=
 hc.mono fun e s' ⟨q⟩=>by
   rcases q with⟨q,x,h1,h2⟩|⟨_,q⟩
   ·rw[q];exact k x s' h1 h2
   ·exact q
def Zb6{κ ν:Type}[DecidableEq κ]{kv:κ->N}{vv:ν->N}{kt vt:J}{i:Nat}{ll:U (κ×ν)}{t:J}{x y z:V6}{k:κ}{v:ν}(hS:Sp wm T h0 G h)(pk:Pk G (mp wm kv vv (some i) ll) Gr)(K:ZcY X.P kt kv)(hu:X.P.underlying t=some (.map kt vt))(hx:Yo fr x=some (.map (some i)))(hy:Yo fr y=some (kv k))(hz:Yo fr z=some (vv v)):
 HU X wm ⟨none,.insert t x y z,ty,p,af,g⟩ fr h (fun j=>j=i) (fun h'=>Sp wm T h0 (mp wm kv vv (some i) (Yk ll k v)::Gr) h'):=
 Kj (ty:=ty) (p:=p) (af:=af) (g:=g) hS pk K hu hx hy hz
section
variable{sf:ST}{m:Nat}
def WX.ZjU{Q:Fr->H->Prop}{o:Oper}{c:Z}(_:Zk ops o fr c)(h1:c=true->WX X n wm rd ops sf m h (o::ol) fr Q)(h2:c=false->WX X n wm rd ops sf m h (o::ol) fr Q):WX X n wm rd ops sf m h (o::ol) fr Q:=by
 cases c
 ·exact h2 rfl
 ·exact h1 rfl
def Sp.djs{T0:Nat->Prop}{G Ga Gr:U (Ast wm)}{B:Ast wm}(s:Sp wm T0 h0 G h)(p:Sel G (B::Ga) Gr):∀x,Qm Ga x->¬ B.fp x:=fun x ⟨A,hA,fa⟩ fb=>
 (GW.1 (s.Zbs p).dis).1 A hA x fb fa
inductive Lk(ops:Array Oper)(m:Nat)(R:Nat->Prop):List (Nat×(Nat->Prop))->Prop
 | n:Lk ops m R []
 | o {q:Nat×(Nat->Prop)} {r:List (Nat×(Nat->Prop))} (h:comp (XL ops.toList 0 []) q.1 m=true):Lk ops m R r->Lk ops m R (q::r)
 | d {q:Nat×(Nat->Prop)} {r:List (Nat×(Nat->Prop))} (h:∀x,q.2 x->¬ R x):Lk ops m R r->Lk ops m R (q::r)
def Lk.get{R:Nat->Prop}{r:U (Nat×(Nat->Prop))}(h:Lk ops m R r):∀q∈r,Cmp ops q.1 m\/∀x,q.2 x->¬ R x:=by
 induction h with
 | n=>intro q hq;simp at hq
 | o h1 _ ih=>intro q hq;rcases Kd.1 hq with z|z
              ·subst z;exact .inl h1
              ·exact ih q z
 | d h1 _ ih=>intro q hq;rcases Kd.1 hq with z|z
              ·subst z;exact .inr h1
              ·exact ih q z
def WX.wrM{Q:Fr->H->Prop}{T0:Nat->Prop}{G:U (Ast wm)}{op:Op}{v:N}(R:Nat->Prop)(hS:Sp wm T0 h0 G h)(hg:ZP ops ⟨some d,op,ty,p,af,g⟩ fr)(hd:Nat.blt d n=true)(ha:∀g':H,g'.size=h.size->(∀x,R x->g'.at x=h.at x)->Xm X g' (Yo fr) ⟨some d,op,ty,p,af,g⟩=some (.val v,.none))
 (k:∀h',h'.size=h.size->Sp wm T0 h0 G h'->WX X n wm rd ops ⟨(m,fun x=>¬ R x)::sf.s,sf.m,sf.p⟩ (m+1) h' ol (Tr.set fr d v) Q) (hh:ZN ⟨some d,op,ty,p,af,g⟩=false) (hM:Lk ops m R sf.m):
 WX X n wm rd ops sf m h (⟨some d,op,ty,p,af,g⟩::ol) fr Q:=by
 have hsz:(X6 (Xy h R) h (mask (Xy h R) h)).size=h.size:=by rw[YR,Zp]
 have hvv:∀x,¬ R x->VV h (X6 (Xy h R) h (mask (Xy h R) h)) (Xy h R) x:=fun x hx=>by
  rcases Gk x h.size with z|z
  ·exact .inl ⟨z,Zbo.2 ⟨z,hx⟩⟩
  ·exact .inr (by rw[hsz];exact z)
 refine⟨fun hb=>WE.cons (T:=fun _=>False) (xs0:=Xy h R) (h2:=X6 (Xy h R) h (mask (Xy h R) h)) (v:=v) [(m,fun x=>¬ R x)] [] none ?_ (fun q hq=>?_) (fun _ z=>z.elim) (fun _ z=>z.elim) (fun hh q hq=>(hM.get q hq).imp id fun z x hx=>hvv x (z x hx)) (fun x j C z=>by cases z) ((k _ hsz (hS.up (Up.hide wm _ h))).out fun q hq x hx=>by rw[hsz];exact hb q hq x hx)⟩
 ·have:=ZbY (wm:=wm) (rd:=rd) hg (.inl (ha _ (Zp _ _) fun x hx=>ZzA hx)) (h1:=mask (Xy h R) h) rfl;have t0:(fun x:Nat=>Eff.tgt Eff.none=some x)=fun _=>False:=by funext x;simp[Eff.tgt]
  rw[t0]at this;exact⟨fun hw=>⟨_,rfl,this.1,this.2.1 (by rw[Zp];exact hw)⟩,fun _ z=>z.elim,fun d' e=>(by cases e;rwa[G6]at hd),fun q=>Bool.noConfusion (hh.symm.trans q),fun _ z=>z.elim⟩
 ·rw[Q2.1 hq];exact⟨rfl,fun x hx=>hvv x hx⟩
def WX.Zen{Q:Fr->H->Prop}{op:Op}{c:Z}(hg:Zk ops ⟨some d,op,ty,p,af,g⟩ fr c)(hc:c=false)(hd:Nat.blt d n=true)(k:WX X n wm rd ops sf (m+1) h ol (Tr.set fr d undef) Q)(hM:okM ops sf m ⟨some d,op,ty,p,af,g⟩=true):WX X n wm rd ops sf m h (⟨some d,op,ty,p,af,g⟩::ol) fr Q:=WX.off (hg.off hc) hd k hM
end
def ZEH{β:Type}{b:Z}{x:O β}{r:β}(h:(bif b then none else x)=some r):b=false/\x=some r:=by
 cases b
 ·exact⟨rfl,h⟩
 ·cases h
def Ztm(b:Z):b=true\/b=false:=by cases b<;>simp
end
section
section
variable{X:Ctx}{n wm:Nat}{G G1 G2 Gr:U (Ast wm)}{h h0:H}{T:Nat->Prop}{df:Nat}{L:U Nat}{fr:Fr}{ds:U Vc}
end
end
section
variable{X:Ctx}{n wm KP:Nat}{rd:O Nat}{ops:Va Oper}{ol:U Oper}{m:Nat}{sf:ST}{fr:Fr}{h h0:H}{ty:J}{p:String}{af:Va Edge}{g:O (Nat×Z)}{T:Nat->Prop}{G Gr:U (Ast wm)}{d:Nat}
section
variable{α:Type}{e:UD α}{a a1 a2:O Addr}{nn c n1 c1 n2 c2:Nat}{ps:Nat->O Addr×Nat×Nat}{xs:U (U α)}
end
section
variable{α:Type}{e:UD α}{t el:J}{x:V6}{a:O Addr}{nn c:Nat}{xs zs:U α}{a1:Int}
end
end
end Go.ZF
end
end
