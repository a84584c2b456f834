/- Part 9. -/
import GoSem.Core.View
import Derived.Test.YtbnepjakjmnadaaGreatLa8
set_option linter.all false
set_option maxHeartbeats 2000000
section
namespace Go.Lf
def loop{α β:Type}:Nat->(α->(α->O β)->O β)->α->O β
 | 0,_,_=>none
 | F+1,body,a=>body a (loop F body)
def ZH{α β:Type}(F:Nat)(body:α->(α->O β)->O β)(a:α):loop (F+1) body a=body a (loop F body):=rfl
def ZN{α:Type}(l:U α)(k:Int):O α:=bif decide (0<=k) then l[k.toNat]? else none
def Ze0{α:Type}(l:U α)(k:Nat):ZN l (k:Int)=l[k]?:=by simp[ZN]
def Zf9{α:Type}{l:U α}{k:Int}{x:α}(h:ZN l k=some x):(k.toNat:Int)=k/\k.toNat<l.length/\l[k.toNat]? =some x:=by
 unfold ZN at h;by_cases hk:0<=k
 ·rw[decide_eq_true hk,Cq1]at h;exact⟨by omega,(Li0 h).1,h⟩
 ·rw[decide_eq_false hk,Cq0]at h;cases h
def YX(n:Int):Int:=Go.IntKind.i64.wrap n
def Zh3{n:Int}(h1:-9223372036854775808<=n)(h2:n<=9223372036854775807):YX n=n:=by
 unfold YX Go.IntKind.wrap;have e1:(2 ^ IntKind.i64.bits:Int)=18446744073709551616:=by decide
 have e2:(2 ^ (IntKind.i64.bits-1):Int)=9223372036854775808:=by decide
 have e3:IntKind.i64.signed=true:=rfl;rw[e1,e2,e3];dsimp only;split
 ·rename_i h;simp at h;omega
 ·rename_i h;simp at h;omega
def slL{α:Type}(xs:U α)(lo hi:Int):O (U α):=bif decide (0<=lo)&&(decide (lo<=hi)&&decide (hi<=xs.length)) then some ((xs.take hi.toNat).drop lo.toNat) else none
def gd{α:Type}(g:Z)(m:O α)(d:α):O α:=bif g then m else some d
def Zbd{α:Type}(m:O α)(d:α):gd true m d=m:=rfl
def Zy0{α:Type}(m:O α)(d:α):gd false m d=some d:=rfl
def app{α:Type}(KX:Nat)(xs ys:U α):O (U α):=bif Nat.ble ((2*(xs.length+ys.length)+1000)*KX) (2 ^ 47) then some (xs++ys) else none
def ZnX{α:Type}{KX:Nat}{xs ys:U α}(h:(2*(xs.length+ys.length)+1000)*KX<=2 ^ 47):app KX xs ys=some (xs++ys):=by
 unfold app;rw[Nm0 h];rfl
def ZAA{α:Type}{KX:Nat}{xs ys zs:U α}(h:app KX xs ys=some zs):zs=xs++ys/\(2*(xs.length+ys.length)+1000)*KX<=2 ^ 47:=by
 unfold app at h;cases hb:Nat.ble ((2*(xs.length+ys.length)+1000)*KX) (2 ^ 47)<;>rw[hb]at h
 ·cases h
 ·cases h;exact⟨rfl,Nl0 hb⟩
def bS{α β:Type}{m:O α}{f:α->O β}{r:β}(h:m.bind f=some r):∃x,m=some x/\f x=some r:=Option.bind_eq_some_iff.1 h
def UN{α β:Type}{g:Z}{m:O α}{d:α}{f:α->O β}{r:β}(h:(gd g m d).bind f=some r):∃x,(g=true->m=some x)/\f x=some r:=by
 obtain⟨x,h1,h2⟩:=bS h;refine⟨x,fun hg=>?_,h2⟩;subst hg;exact h1
def Xp{α:Type}{c:Z}{a b r:α}(hc:c=true)(h:(bif c then a else b)=r):a=r:=by subst hc;exact h
def Xq{α:Type}{c:Z}{a b r:α}(hc:c=false)(h:(bif c then a else b)=r):b=r:=by subst hc;exact h
def Yg{κ ν:Type}[DecidableEq κ]:U (κ×ν)->κ->O (Nat×ν)
 | [],_=>none
 | p::l,k=>if p.1=k then some (0,p.2) else(Yg l k).map fun q=>(q.1+1,q.2)
def ZR{κ ν:Type}[DecidableEq κ](l:U (κ×ν))(k:κ):O ν:=(Yg l k).map (·.2)
def Xw{κ ν:Type}[DecidableEq κ](l:U (κ×ν))(k:κ)(x:ν):U (κ×ν):=match Yg l k with
 | some q=>l.modify q.1 fun p=>(p.1,x)
 | none=>l++[(k,x)]
def ZkM{κ ν:Type}[DecidableEq κ](l:U (κ×ν))(k:κ)(z:ν):O ν:=some ((ZR l k).getD z)
def Zxk{κ ν:Type}[DecidableEq κ](l:U (κ×ν))(k:κ)(z:ν):O (ν×Z):=some ((ZR l k).getD z,(ZR l k).isSome)
section
variable{κ ν:Type}[DecidableEq κ]
theorem Za7{l:U (κ×ν)}{k:κ}{q:Nat×ν}(h:Yg l k=some q):l[q.1]? =some (k,q.2):=by
 induction l generalizing q with
 | nil=>cases h
 | cons p l ih=>
   unfold Yg at h;split at h
   ·rename_i e;cases h;simp[<-e]
   ·cases e:Yg l k with
    | none=>rw[e]at h;cases h
    | some q'=>rw[e]at h;cases h;simpa using ih e
theorem ZdZ{l:U (κ×ν)}{k:κ}:Yg l k=none↔∀p∈l,p.1≠k:=by
 induction l with
 | nil=>simp[Yg]
 | cons p l ih=>
   unfold Yg;split
   ·rename_i e;simp[e]
   ·rename_i e;simp[e,ih]
theorem Za8{l l2:U (κ×ν)}{k:κ}(h:Yg l k=none):Yg (l++l2) k=(Yg l2 k).map fun q=>(q.1+l.length,q.2):=by
 induction l with
 | nil=>cases e:Yg l2 k<;>simp[e]
 | cons p l ih=>
   rw[ZdZ]at h;have h1:p.1≠k:=h p (by simp);have h2:Yg l k=none:=ZdZ.2 fun q hq=>h q (by simp[hq])
   rw[GY,Yg,if_neg h1,ih h2];cases e:Yg l2 k with
   | none=>rfl
   | some q=>simp[GF]
theorem K4{l l2:U (κ×ν)}{k:κ}{q:Nat×ν}(h:Yg l k=some q):Yg (l++l2) k=some q:=by
 induction l generalizing q with
 | nil=>cases h
 | cons p l ih=>
   rw[GY];unfold Yg at h ⊢;split
   ·rename_i e;rw[if_pos e]at h;exact h
   ·rename_i e;rw[if_neg e]at h;cases e2:Yg l k with
    | none=>rw[e2]at h;cases h
    | some q'=>rw[e2]at h;rw[ih e2];exact h
theorem U9{l l2:U (κ×ν)}{k:κ}(h:ZR l k=none):ZR (l++l2) k=ZR l2 k:=by
 unfold ZR at h ⊢
 have h1:Yg l k=none:=by
  cases e:Yg l k with
  | none=>rfl
  | some q=>rw[e]at h;cases h
 rw[Za8 h1];cases Yg l2 k<;>rfl
theorem ZaE{l l2:U (κ×ν)}{k:κ}{v:ν}(h:ZR l k=some v):ZR (l++l2) k=some v:=by
 unfold ZR at h ⊢;cases e:Yg l k with
 | none=>rw[e]at h;cases h
 | some q=>rw[e]at h;rw[K4 e];exact h
theorem ZmU{l:U (κ×ν)}{k k':κ}{q:Nat×ν}{x:ν}(h:Yg l k=some q):(Yg (l.modify q.1 fun p=>(p.1,x)) k').map (·.2)=if k'=k then some x else(Yg l k').map (·.2):=by
 induction l generalizing q with
 | nil=>cases h
 | cons p l ih=>
   unfold Yg at h;split at h
   ·rename_i e;cases h;simp only[List.modify_zero_cons];unfold Yg;dsimp only;rw[e];by_cases hk:k=k'
    ·subst hk;simp
    ·rw[if_neg hk,if_neg hk,if_neg (fun z=>hk z.symm)]
   ·rename_i e;cases e2:Yg l k with
    | none=>rw[e2]at h;cases h
    | some q'=>
      rw[e2]at h;cases h;have:=ih e2;simp only[List.modify_succ_cons];unfold Yg;by_cases hp:p.1=k'
      ·rw[if_pos hp,if_pos hp];have:¬ k'=k:=fun z=>e (hp.trans z)
       rw[if_neg this]
      ·rw[if_neg hp,if_neg hp,Option.map_map,Option.map_map];exact this
theorem Zc0(l:U (κ×ν))(k k':κ)(x:ν):ZR (Xw l k x) k'=if k'=k then some x else ZR l k':=by
 unfold Xw ZR;cases e:Yg l k with
 | some q=>exact ZmU e
 | none=>
   dsimp only;by_cases hk:k'=k
   ·subst hk;rw[if_pos rfl,Za8 e];simp[Yg]
   ·rw[if_neg hk];cases e2:Yg l k' with
    | some q=>rw[K4 e2]
    | none=>
      rw[Za8 e2];have:Yg [(k,x)] k'=none:=by simp[Yg];exact fun z=>hk z.symm
      rw[this];rfl
end
inductive PR(β:Type) where
 | ok (b:β)
 | Z9 (k:Int)
def JS{α β:Type}(x:PR α)(p:Int->O β)(k:α->O β):O β:=match x with
 | .ok y=>k y
 | .Z9 e=>p e
def opt{α β:Type}(x:O α)(p:O β)(k:α->O β):O β:=match x with
 | some y=>k y
 | none=>p
def QJ(x:Int):O Int:=bif decide (0<=x)&&decide (x<=12) then some ([0,1,2,2,3,3,3,3,4,4,4,4,4].getD x.toNat 0) else none
def Zlx{κ ν:Type}(b:κ->ν->O Z):U (κ×ν)->O Z
 | []=>some false
 | x::r=>(b x.1 x.2).bind fun p=>(Zlx b r).bind fun q=>some (p||q)
def ZiH{κ ν:Type}{b:κ->ν->O Z}:∀{l:U (κ×ν)}{q:Z},Zlx b l=some q->(∀x∈l,∃p,b x.1 x.2=some p)/\(q=true↔∃x∈l,b x.1 x.2=some true)
 | [],q,h=>by cases h;simp
 | x::r,q,h=>by
   obtain⟨p,h1,h⟩:=bS h;obtain⟨q',h2,h⟩:=bS h;cases h;obtain⟨i1,i2⟩:=ZiH h2;refine⟨fun y hy=>?_,?_⟩
   ·rcases Kx.1 hy with z|z
    ·subst z;exact⟨p,h1⟩
    ·exact i1 y z
   ·rw[Gt,i2]
    constructor
    ·rintro(z|⟨y,hy,hz⟩)
     ·exact⟨x,by simp,by rw[h1,z]⟩
     ·exact⟨y,by simp[hy],hz⟩
    ·rintro⟨y,hy,hz⟩;rcases Kx.1 hy with z|z
     ·subst z;rw[h1]at hz;left;exact Oi0 hz
     ·exact .inr ⟨y,z,hz⟩
end Go.Lf
end
section
noncomputable section
namespace Go.ZP
open Go.Lf
section
structure Fz(wm:Nat)(h h':H):Prop where
 size:h.size<=h'.size
 keep:∀i cs own z,h.at i=.row cs own z->(i<wm\/own=false)->h'.at i=.row cs own z
 low:∀i,i<wm->i<h.size->h'.at i=h.at i
def Fz.refl(wm:Nat)(h:H):Fz wm h h:=⟨K1 _,fun _ _ _ _ e _=>e,fun _ _ _=>rfl⟩
def Fz.trans{wm:Nat}{a b c:H}(x:Fz wm a b)(y:Fz wm b c):Fz wm a c:=
 ⟨KB x.size y.size,fun i cs own z e s=>y.keep i cs own z (x.keep i cs own z e s) s,fun i h1 h2=>(y.low i h1 (Jx h2 x.size)).trans (x.low i h1 h2)⟩
structure Up(lo:Nat)(t:Nat->Prop)(h h':H):Prop where
 size:h.size<=h'.size
 keep:∀i,i<h.size->¬ t i->h'.at i=h.at i
 own:∀i,t i->lo<=i/\(h.at i).own=true
def Up.fz{lo wm:Nat}{t:Nat->Prop}{h h':H}(u:Up lo t h h')(hw:wm<=lo):Fz wm h h':=by
 refine⟨u.size,fun i cs own z e s=>?_,fun i h1 h2=>u.keep i h2 fun ht=>by have:=(u.own i ht).1;omega⟩;rw[u.keep i (Qf e rfl) ?_,e];intro ht;obtain⟨h1,h2⟩:=u.own i ht;rw[e]at h2;rcases s with s|s
 ·omega
 ·subst s;cases h2
def Up.ZCe{h h':H}(lo:Nat)(g:Grow h h'):Up lo (fun _=>False) h h':=⟨g.size,fun i hi _=>g.keep i hi,fun _ e=>e.elim⟩
def Up.push(lo:Nat)(h:H)(A:YS):Up lo (fun _=>False) h (h.push A):=Up.ZCe lo ((Grow.refl h).push A)
def Up.put{lo:Nat}{h:H}{b:Nat}{A:YS}(hl:lo<=b)(ho:(h.at b).own=true):Up lo (fun i=>i=b) h (h.put b A):=
 ⟨K1 _,fun i _ hn=>XT hn A,fun i e=>by subst e;exact⟨hl,ho⟩⟩
def At(h:H)(b o:Nat)(vs:U N):Prop:=∃cs own z,h.at b=.row cs own z/\(cs.drop o).take vs.length=vs/\o+vs.length<=cs.length
def Stb(wm:Nat)(h:H)(b:Nat):Prop:=b<wm\/(h.at b).own=false
def At.box{h:H}{b:Nat}{vs:U N}{own:Z}{z:Nat}(hb:h.at b=.row vs own z):At h b 0 vs:=⟨vs,own,z,hb,by simp,by omega⟩
def At.fz{wm:Nat}{h h':H}{b o:Nat}{vs:U N}(f:Fz wm h h')(s:Stb wm h b)(a:At h b o vs):At h' b o vs:=by
 obtain⟨cs,own,z,h1,h2,h3⟩:=a;exact⟨cs,own,z,f.keep _ _ _ _ h1 (s.imp id fun e=>by rw[h1]at e;exact e),h2,h3⟩
def Stb.fz{wm:Nat}{h h':H}{b o:Nat}{vs:U N}(f:Fz wm h h')(a:At h b o vs)(s:Stb wm h b):Stb wm h' b:=by
 obtain⟨cs,own,z,h1,_,_⟩:=a;refine s.imp id fun e=>?_
 rw[h1]at e;rw[f.keep _ _ _ _ h1 (.inr e)];exact e
def At.cell{h:H}{b o j:Nat}{vs:U N}{v:N}(a:At h b o vs)(hv:vs[j]? =some v):∃cs own z,h.at b=.row cs own z/\cs[o+j]? =some v:=by
 obtain⟨cs,own,z,h1,h2,h3⟩:=a;refine⟨cs,own,z,h1,?_⟩;have hj:=(Li0 hv).1;rw[<-h2,List.getElem?_take_of_lt hj,List.getElem?_drop]at hv;exact hv
def At.part{h:H}{b o j n:Nat}{vs ws:U N}(a:At h b o vs)(hj:j+n<=vs.length)(hw:(vs.drop j).take n=ws):∃cs own z,h.at b=.row cs own z/\o+j+n<=cs.length/\(cs.drop (o+j)).take n=ws:=by
 obtain⟨cs,own,z,h1,h2,h3⟩:=a;refine⟨cs,own,z,h1,by omega,?_⟩;rw[<-hw,<-h2,List.drop_take,List.take_take,List.drop_drop];have e:min n (vs.length-j)=n:=Va
 rw[e]
structure JY(α:Type) where
 sz:Nat
 pos:0<sz
 Par:Type
 dflt:Par
 sh:Par->α->List Value
 len:∀p x,(sh p x).length=sz
 one:∀p x,(sh p x).all Value.oneCell'=true
 F:Nat->H->Par->α->Prop
 mono:∀{wm h h' p x},Fz wm h h'->F wm h p x->F wm h' p x
 up:∀{wm UC h p x},wm<=UC->F wm h p x->F UC h p x
def Zn9(a:O Addr)(c:Nat):Prop:=(a=none/\c=0)\/(a=some ⟨0,0,some 0⟩/\c=0)\/∃i o,a=some ⟨i,o,none⟩
structure Q7{α:Type}(e:JY α)(wm:Nat)(h:H)(cs:List Value)(o:Nat)(xs:List α):Prop where
 len:o+xs.length*e.sz<=cs.length
 get:∀k x,xs[k]? =some x->∃q,(cs.drop (o+k*e.sz)).take e.sz=e.sh q x/\e.F wm h q x
def Q7.mono{α:Type}{e:JY α}{wm:Nat}{h h':H}{cs:U N}{o:Nat}{xs:U α}(f:Fz wm h h')(a:Q7 e wm h cs o xs):Q7 e wm h' cs o xs:=
 ⟨a.len,fun k x hk=>let⟨q,h1,h2⟩:=a.get k x hk;⟨q,h1,e.mono f h2⟩⟩
def Q7.up{α:Type}{e:JY α}{wm UC:Nat}{h:H}{cs:U N}{o:Nat}{xs:U α}(f:wm<=UC)(a:Q7 e wm h cs o xs):Q7 e UC h cs o xs:=
 ⟨a.len,fun k x hk=>let⟨q,h1,h2⟩:=a.get k x hk;⟨q,h1,e.up f h2⟩⟩
structure Src{α:Type}(e:JY α)(wm:Nat)(h:H)(a:Option Addr)(c:Nat)(xs:List α):Prop where
 max:xs.length<=9223372036854775807
 cap:xs.length<=c / 2
 nl:Zn9 a c
 mem:xs=[]\/∃i o cs own z,a=some ⟨i,o,none⟩/\h.at i=.row cs own z/\Q7 e wm h cs o xs
structure Sl{α:Type}(e:JY α)(wm:Nat)(h:H)(a:Option Addr)(c:Nat)(xs:List α):Prop where
 max:xs.length<=9223372036854775807
 cap:xs.length<=c / 2
 nl:Zn9 a c
 mem:xs=[]\/∃i o cs own z,a=some ⟨i,o,none⟩/\h.at i=.row cs own z/\(i<wm\/own=false)/\Q7 e wm h cs o xs
structure UR{α:Type}(e:JY α)(wm lo:Nat)(h:H)(a:Option Addr)(c:Nat)(xs:List α):Prop where
 max:xs.length<=9223372036854775807
 mem:(a=none/\c=0/\xs=[])\/∃i o cs,a=some ⟨i,o,none⟩/\lo<=i/\h.at i=.row cs true e.sz/\xs.length<=c / 2/\o+(c / 2)*e.sz<=cs.length/\Q7 e wm h cs o xs
variable{α:Type}{e:JY α}{wm UC lo:Nat}{h h':H}{a:O Addr}{c:Nat}{xs:U α}
def Sl.src(s:Sl e wm h a c xs):Src e wm h a c xs:=⟨s.max,s.cap,s.nl,s.mem.imp id fun⟨i,o,cs,own,z,h1,h2,_,h4⟩=>⟨i,o,cs,own,z,h1,h2,h4⟩⟩
def UR.nl(s:UR e wm lo h a c xs):Zn9 a c:=by
 rcases s.mem with⟨h1,h2,_⟩|⟨i,o,cs,h1,_⟩
 ·exact .inl ⟨h1,h2⟩
 ·exact .inr (.inr ⟨i,o,h1⟩)
def UR.cap(s:UR e wm lo h a c xs):xs.length<=c / 2:=by
 rcases s.mem with⟨_,_,h3⟩|⟨i,o,cs,h1,_,h3,h4,_⟩
 ·subst h3;exact Gi _
 ·exact h4
def UR.src(s:UR e wm lo h a c xs):Src e wm h a c xs:=⟨s.max,s.cap,s.nl,by
 rcases s.mem with⟨_,_,h3⟩|⟨i,o,cs,h1,_,h3,_,_,h6⟩
 ·exact .inl h3
 ·exact .inr ⟨i,o,cs,true,_,h1,h3,h6⟩⟩
def Sl.mono(f:Fz wm h h')(s:Sl e wm h a c xs):Sl e wm h' a c xs:=⟨s.max,s.cap,s.nl,s.mem.imp id fun⟨i,o,cs,own,z,h1,h2,h3,h4⟩=>⟨i,o,cs,own,z,h1,f.keep _ _ _ _ h2 h3,h3,h4.mono f⟩⟩
def Sl.up(f:wm<=UC)(s:Sl e wm h a c xs):Sl e UC h a c xs:=⟨s.max,s.cap,s.nl,s.mem.imp id fun⟨i,o,cs,own,z,h1,h2,h3,h4⟩=>⟨i,o,cs,own,z,h1,h2,h3.imp (fun x=>by omega) id,h4.up f⟩⟩
def Src.sl(s:Src e wm h a c xs)(hw:wm<=h.size):Sl e h.size h a c xs:=⟨s.max,s.cap,s.nl,s.mem.imp id fun⟨i,o,cs,own,z,h1,h2,h4⟩=>⟨i,o,cs,own,z,h1,h2,.inl (Qf h2 rfl),h4.up hw⟩⟩
def Sl.nil:Sl e wm h none 0 ([]:U α):=⟨by simp,by simp,.inl ⟨rfl,rfl⟩,.inl rfl⟩
def UR.nil:UR e wm lo h none 0 ([]:U α):=⟨by simp,.inl ⟨rfl,rfl,rfl⟩⟩
def Uf(a:O Addr)(i:Nat):Prop:=∃o,a=some ⟨i,o,none⟩
def Src.at_{k:Int}{x:α}(s:Src e wm h a c xs)(hk:ZN xs k=some x):∃i o q,a=some ⟨i,o,none⟩/\At h i (o+k.toNat*e.sz) (e.sh q x)/\e.F wm h q x:=by
 obtain⟨h1,h2,h3⟩:=Zf9 hk;rcases s.mem with z|⟨i,o,cs,own,z,q1,q2,q3⟩
 ·subst z;simp at h2
 ·obtain⟨q,g1,g2⟩:=q3.get _ _ h3;refine⟨i,o,q,q1,⟨cs,own,z,q2,by rw[e.len];exact g1,?_⟩,g2⟩;rw[e.len];have:=q3.len;have:(k.toNat+1)*e.sz<=xs.length*e.sz:=GR _ h2;rw[Nat.succ_mul]at this;omega
def Sl.at_{k:Int}{x:α}(s:Sl e wm h a c xs)(hk:ZN xs k=some x):∃i o q,a=some ⟨i,o,none⟩/\At h i (o+k.toNat*e.sz) (e.sh q x)/\Stb wm h i/\e.F wm h q x:=by
 obtain⟨h1,h2,h3⟩:=Zf9 hk;rcases s.mem with z|⟨i,o,cs,own,z,q1,q2,q4,q3⟩
 ·subst z;simp at h2
 ·obtain⟨q,g1,g2⟩:=q3.get _ _ h3;refine⟨i,o,q,q1,⟨cs,own,z,q2,by rw[e.len];exact g1,?_⟩,q4.imp id (fun z=>by rw[q2];exact z),g2⟩;rw[e.len];have:=q3.len;have:(k.toNat+1)*e.sz<=xs.length*e.sz:=GR _ h2;rw[Nat.succ_mul]at this;omega
def Zxb(k:IntKind):JY Int where
 sz:=1
 pos:=Nat.one_pos
 Par:=Unit
 dflt:=()
 sh:=fun _ x=>[.int k x]
 len:=fun _ _=>rfl
 one:=fun _ _=>rfl
 F:=fun _ _ _ _=>True
 mono:=fun _ x=>x
 up:=fun _ x=>x
def Xb:JY Y where
 sz:=1
 pos:=Nat.one_pos
 Par:=Unit
 dflt:=()
 sh:=fun _ x=>[.string x]
 len:=fun _ _=>rfl
 one:=fun _ _=>rfl
 F:=fun _ _ _ _=>True
 mono:=fun _ x=>x
 up:=fun _ x=>x
def YB{α:Type}(e:JY α):JY (U α) where
 sz:=1
 pos:=Nat.one_pos
 Par:=O Addr×Nat
 dflt:=(none,0)
 sh:=fun p x=>[.slice p.1 x.length p.2]
 len:=fun _ _=>rfl
 one:=fun _ _=>rfl
 F:=fun wm h p x=>Sl e wm h p.1 p.2 x
 mono:=fun f x=>x.mono f
 up:=fun f x=>x.up f
end
section
variable{X:Ctx}{n wm:Nat}{rd:O Nat}{s:Fs}{Q:XX->Fs->Prop}
def ZQN(fr:Fr)(d:Nat)(v:N):Fr.at (Tr.set fr d v) d=v:=by rw[at_set,if_pos rfl]
def Zg{fr:Fr}{d t:Nat}{v w:N}(hn:Nat.beq t d=false)(k:Fr.at fr t=v):Fr.at (Tr.set fr d w) t=v:=by
 rw[at_set,if_neg (fun e=>by rw[e,Nat.beq_refl]at hn;cases hn)];exact k
def Z8{fr:Fr}{a b t:Nat}{v x y:N}(hn:(Nat.beq t a||Nat.beq t b)=false)(k:Fr.at fr t=v):Fr.at (Tr.set (Tr.set fr b y) a x) t=v:=by
 rw[Bool.or_eq_false_iff]at hn;exact Zg hn.1 (Zg hn.2 k)
def YC{fr:Fr}{a b c d t:Nat}{v x y z w:N}(hn:((Nat.beq t a||Nat.beq t b)||(Nat.beq t c||Nat.beq t d))=false)(k:Fr.at fr t=v):Fr.at (Tr.set (Tr.set (Tr.set (Tr.set fr d w) c z) b y) a x) t=v:=by
 rw[Bool.or_eq_false_iff]at hn;exact Z8 hn.1 (Z8 hn.2 k)
def YJ{fr:Fr}{a b c d a' b' c' d' t:Nat}{v x y z w x' y' z' w':N}(hn:(((Nat.beq t a||Nat.beq t b)||(Nat.beq t c||Nat.beq t d))||((Nat.beq t a'||Nat.beq t b')||(Nat.beq t c'||Nat.beq t d')))=false)(k:Fr.at fr t=v):
 Fr.at (Tr.set (Tr.set (Tr.set (Tr.set (Tr.set (Tr.set (Tr.set (Tr.set fr d' w') c' z') b' y') a' x') d w) c z) b y) a x) t=v:=by
 rw[Bool.or_eq_false_iff]at hn;exact YC hn.1 (YC hn.2 k)
def fh{fr:Fr}{d:Nat}{v:N}:Fr.at (Tr.set fr d v) d=v:=ZQN _ _ _
def Zj{fr:Fr}{t:Nat}{v:N}(h:fr.at t=v)(ha:X6 v=false):YG fr (.tmp t)=some v:=by rw[Zn2,h,ha];rfl
def WG{fr:Fr}{t:Nat}{c:Z}{v:N}(h:fr.at t=cond c v undef)(ha:X6 v=false):c=true->YG fr (.tmp t)=some v:=fun hc=>by
 rw[Zn2,h,hc,Cq1,ha];rfl
def J2{fr:Fr}{v:N}(h:plain v=true):YG fr (.const v)=some v:=by rw[Zv9,h];rfl
def ZzY{fr:Fr}{t:Nat}{c b:Z}(h:fr.at t=cond c (.bool b) undef):YG fr (.tmp t)=some (cond c (.bool b) undef):=by
 rw[Zn2,h];cases c<;>rfl
def ZNT{α β:Type}(I:α->Fs->Prop)(j:α->O β)(r:β)(Q:XX->Fs->Prop):XX->Fs->Prop:=fun e s=>
 match e with
 | .normal=>∃a,j a=some r/\I a s
 | e=>Q e s
structure Xf{α β:Type}(I:α->Fs->Prop)(j:α->Option β)(r:β)(Q:XX->Fs->Prop)(e:XX)(s:Fs):Prop where
 out:ZNT I j r Q e s
def Xf.Yc{α β:Type}{I:α->Fs->Prop}{j:α->O β}{r:β}(a:α)(h:j a=some r)(i:I a s):Xf I j r Q .normal s:=⟨a,h,i⟩
def Xf.ret{α β:Type}{I:α->Fs->Prop}{j:α->O β}{r:β}(h:Q .ret s):Xf I j r Q .ret s:=⟨h⟩
def Xf.panic{α β:Type}{I:α->Fs->Prop}{j:α->O β}{r:β}{v:N}(h:Q (.panic v) s):Xf I j r Q (.panic v) s:=⟨h⟩
def WC.ZfV{α β:Type}{a b:Code}{r:β}(I:α->Fs->Prop)(j:α->O β)(k:∀x s',j x=some r->I x s'->WC X n wm rd b s' Q)(h:WC X n wm rd a s (Xf I j r Q)):WC X n wm rd (.seq a b) s Q:=by
 refine WC.seq (h.mono fun e s' q=>⟨?_⟩);have q:=q.out;cases e with
 | normal=>obtain⟨x,h1,h2⟩:=q;exact k x s' h1 h2
 | _=>exact q
def WC.Uc{c:GZ}{a b:Code}{t:Z}{fr:Fr}{ds:U V6}{h:H}(hc:YG fr c=some (.bool t))(h1:t=true->WC X n wm rd a ⟨fr,ds,h,none⟩ Q)(h2:t=false->WC X n wm rd b ⟨fr,ds,h,none⟩ Q):WC X n wm rd (.cond c a b) ⟨fr,ds,h,none⟩ Q:=WC.cond (s:=⟨fr,ds,h,none⟩) hc h1 h2
def WC.ZnK{c:GZ}{a b:Code}{t:Z}{fr:Fr}{ds:U V6}{h:H}(hc:YG fr c=some (.bool t))(ht:t=true)(k:WC X n wm rd a ⟨fr,ds,h,none⟩ Q):WC X n wm rd (.cond c a b) ⟨fr,ds,h,none⟩ Q:=WC.ZAd (s:=⟨fr,ds,h,none⟩) hc ht k
def WC.Zgs{c:GZ}{a b:Code}{t:Z}{fr:Fr}{ds:U V6}{h:H}(hc:YG fr c=some (.bool t))(ht:t=false)(k:WC X n wm rd b ⟨fr,ds,h,none⟩ Q):WC X n wm rd (.cond c a b) ⟨fr,ds,h,none⟩ Q:=WC.Zue (s:=⟨fr,ds,h,none⟩) hc ht k
def WL.lift{α β:Type}{c:Code}{body:α->(α->O β)->O β}{r:β}{F:Nat}{a:α}(hL:loop F body a=some r)(I:α->Fs->Prop)(init:I a s)
 (round:∀(next:α->O β) a s,(∀a' s',next a'=some r->I a' s'->WL X n wm rd c s' Q)->body a next=some r->I a s->WC X n wm rd c s (Ya X n wm rd c Q)):WL X n wm rd c s Q:=by
 induction F generalizing a s with
 | zero=>cases hL
 | succ F ih=>exact WL.step (round _ _ _ (fun a' s' h1 h2=>ih h1 h2) hL init)
section
variable{h:H}{ev:GZ->O N}{d:O Tmp}{ty:J}{p:String}{af:V4 Edge}{g:O (Nat×Z)}
def Yt{x:GZ}{t:J}{b o oo j:Nat}{vs:U N}{v:N}(ht:YE X.P t=some false)(hx:ev x=some (.pointer (some ⟨b,oo,none⟩)))(ha:At h b o vs)(ho:oo=o+j)(hv:vs[j]? =some v):
 Xt X h ev ⟨d,.load t x,ty,p,af,g⟩=some (.val v,.none):=by
 obtain⟨cs,own,z,h1,h2⟩:=ha.cell hv;subst ho;exact ZAv ht hx h1 h2
def Yx{x:GZ}{t:J}{b o oo j sz:Nat}{vs ws:U N}(ht:YE X.P t=some true)(hs:Yz X.P t=some sz)(hx:ev x=some (.pointer (some ⟨b,oo,none⟩)))(ha:At h b o vs)(ho:oo=o+j)(hj:Nat.ble (j+sz) vs.length=true)(hv:(vs.drop j).take sz=ws):
 Xt X h ev ⟨d,.load t x,ty,p,af,g⟩=some (.val (.agg ws.toArray),.none):=by
 obtain⟨cs,own,z,h1,h2,h3⟩:=ha.part (Nl0 hj) hv;subst ho;exact ZAu ht hs hx h1 h2 h3
def ZNF{α:Type}{xs:U α}{v:α}{x y:GZ}{t e:J}{sz b o c:Nat}{a:O Addr}{k:Int}(hu:X.P.underlying t=some (.slice e))(hs:Yz X.P e=some sz)(hx:ev x=some (.slice a xs.length c))(hy:ev y=some (V8 k))(ha:a=some ⟨b,o,none⟩)(hk:ZN xs k=some v):
 Xt X h ev ⟨d,.indexAddr t x y,ty,p,af,g⟩=some (.val (.pointer (some ⟨b,o+k.toNat*sz,none⟩)),.none):=by
 obtain⟨h1,h2,_⟩:=Zf9 hk;subst ha;exact ZIY hu hs hx hy h1.symm h2
def ZsQ{op:BinOp}{t:J}{P:V0}{x y:GZ}{a b c:Int}(h1:op=.add/\c=a+b\/op=.sub/\c=a-b\/op=.mul/\c=a*b):QO P op t x y (V8 a) (V8 b)=some (.val (V8 (YX c)),.none):=ZsT h1
def UB{t:J}{P:V0}{x y:GZ}{a b:Int}:QO P .add t x y (V8 a) (V8 b)=some (.val (V8 (YX (a+b))),.none):=ZsQ (.inl ⟨rfl,rfl⟩)
def Zwb{t:J}{P:V0}{x y:GZ}{a b:Int}:QO P .sub t x y (V8 a) (V8 b)=some (.val (V8 (YX (a-b))),.none):=ZsQ (.inr (.inl ⟨rfl,rfl⟩))
def Zwf{t:J}{P:V0}{x y:GZ}{a b:Int}:QO P .mul t x y (V8 a) (V8 b)=some (.val (V8 (YX (a*b))),.none):=ZsQ (.inr (.inr ⟨rfl,rfl⟩))
end
def Sl.atG{α:Type}{e:JY α}{wm:Nat}{h:H}{a:O Addr}{c:Nat}{xs:U α}{k:Int}{x:α}{g:Z}(s:g=true->Sl e wm h a c xs)(hk:g=true->ZN xs k=some x):
 ∃i o q,g=true->(a=some ⟨i,o,none⟩/\At h i (o+k.toNat*e.sz) (e.sh q x)/\Stb wm h i/\e.F wm h q x):=by
 cases g with
 | false=>exact⟨0,0,e.dflt,fun z=>by cases z⟩
 | true=>obtain⟨i,o,q,z⟩:=(s rfl).at_ (hk rfl);exact⟨i,o,q,fun _=>z⟩
section
variable{ops:V4 Oper}{l:U Oper}{fr:Fr}{ds:U V6}{h:H}{d:Nat}{ty:J}{p:String}{af:V4 Edge}{g:O (Nat×Z)}{c:Z}{QQ:Fr->Prop}
end
abbrev WR(X:Ctx)(f:V2)(args:V4 N)(wm:Nat)(h:H)(R:N->H->Prop):Prop:=WF X f args wm h (fun e h'=>∃v,e=.ret v/\R v h')
def WF.ZKj{f:V2}{args:V4 N}{h:H}{v:N}(hp:plain v=true)(k:WR X f args h.size h (fun v' _=>v'=v)):Pure X f args h v:=
 WF.pure hp (k.mono fun e h' ⟨v',h1,h2⟩=>by rw[h1,h2])
end
section
variable{X:Ctx}{n wm:Nat}{rd:O Nat}{Q:XX->Fs->Prop}
variable{ops:V4 Oper}{l:U Oper}{fr:Fr}{ds:U V6}{h:H}{d:Nat}{ty:J}{p:String}{af:V4 Edge}{g:O (Nat×Z)}
section
variable{α:Type}{e:JY α}{lo:Nat}{h':H}
def Q7.nil{wm:Nat}{cs:U N}{o:Nat}(hl:o<=cs.length):Q7 e wm h cs o ([]:U α):=⟨by simpa using hl,fun k x hk=>by simp at hk⟩
def Q7.ZCd{wm:Nat}:∀(qs:U (e.Par×α)),(∀q∈qs,e.F wm h q.1 q.2)->Q7 e wm h (qs.flatMap fun q=>e.sh q.1 q.2) 0 (qs.map (·.2)):=by
 intro qs hq
 have hl:∀(qs:U (e.Par×α)),(qs.flatMap fun q=>e.sh q.1 q.2).length=qs.length*e.sz:=by
  intro qs
  induction qs with
  | nil=>simp
  | cons q qs ih=>rw[K2,K0,ih,e.len,Kf,Nat.succ_mul];omega
 refine⟨by rw[hl];simp,?_⟩
 induction qs with
 | nil=>intro k x hk;simp at hk
 | cons q qs ih=>
   intro k x hk;cases k with
   | zero=>
     simp at hk;subst hk;refine⟨q.1,?_,hq q (by simp)⟩;rw[K2,Nat.zero_mul,Nat.add_zero,List.drop_zero,List.take_append_of_le_length (by rw[e.len];exact K1 _),List.take_of_length_le (by rw[e.len];exact K1 _)]
   | succ k=>
     obtain⟨q',h1,h2⟩:=ih (fun q hq'=>hq q (by simp[hq'])) k x (by simpa using hk);refine⟨q',?_,h2⟩;rw[<-h1,K2,List.drop_append,e.len,List.drop_of_length_le (by rw[e.len,Nat.succ_mul];omega),G5];congr 2;rw[Nat.succ_mul];omega
def Q7.cut{wm:Nat}{cs:U N}{o:Nat}{xs:U α}(a:Q7 e wm h cs o xs):Q7 e wm h ((cs.drop o).take (xs.length*e.sz)) 0 xs:=by
 have hl:=a.len;refine⟨by rw[Gu,GG];omega,fun k x hk=>?_⟩;obtain⟨q,h1,h2⟩:=a.get k x hk;refine⟨q,?_,h2⟩;have hk':k<xs.length:=(Li0 hk).1;have:(k+1)*e.sz<=xs.length*e.sz:=GR _ hk';rw[Nat.succ_mul]at this;rw[<-h1,List.drop_take,List.take_take,List.drop_drop,G0];congr 1;omega
def Q7.ZJ2{wm:Nat}{cs:U N}{o:Nat}{xs:U α}(hl:o+xs.length*e.sz<=cs.length)(a:Q7 e wm h ((cs.drop o).take (xs.length*e.sz)) 0 xs):Q7 e wm h cs o xs:=by
 refine⟨hl,fun k x hk=>?_⟩;obtain⟨q,h1,h2⟩:=a.get k x hk;refine⟨q,?_,h2⟩;have hk':k<xs.length:=(Li0 hk).1;have:(k+1)*e.sz<=xs.length*e.sz:=GR _ hk';rw[Nat.succ_mul]at this;rw[<-h1,List.drop_take,List.take_take,List.drop_drop,G0];congr 1;omega
def Q7.append{wm:Nat}{YH bs:U N}{xs ys:U α}(hl:YH.length=xs.length*e.sz)(a:Q7 e wm h YH 0 xs)(b:Q7 e wm h bs 0 ys):Q7 e wm h (YH++bs) 0 (xs++ys):=by
 have h1:=a.len;have h2:=b.len;refine⟨by rw[K0,K0,Nat.add_mul];omega,fun k x hk=>?_⟩;rw[G0];by_cases hk':k<xs.length
 ·rw[List.getElem?_append_left hk']at hk;obtain⟨q,q1,q2⟩:=a.get k x hk;refine⟨q,?_,q2⟩;have:(k+1)*e.sz<=xs.length*e.sz:=GR _ hk';rw[Nat.succ_mul]at this;rw[G0]at q1;rw[<-q1,List.drop_append,List.take_append_of_le_length (by rw[GG];omega)]
 ·rw[List.getElem?_append_right Va]at hk;obtain⟨q,q1,q2⟩:=b.get _ x hk;refine⟨q,?_,q2⟩;have:xs.length*e.sz<=k*e.sz:=GR _ Va;rw[G0]at q1;rw[<-q1,List.drop_append,List.drop_of_length_le Va,G5,hl,Nat.sub_mul]
def Q7.one{wm:Nat}{cs:U N}{xs:U α}(hl:cs.length=xs.length*e.sz)(a:Q7 e wm h cs 0 xs):cs.all Value.oneCell'=true:=by
 rw[Kd];intro v hv;obtain⟨j,hj⟩:=GL.1 hv;have hjl:j<cs.length:=(Li0 hj).1;have hp:=e.pos;have hk:j / e.sz<xs.length:=Nat.div_lt_of_lt_mul (by rw[Nat.mul_comm,<-hl];exact hjl);obtain⟨q,q1,_⟩:=a.get (j / e.sz) xs[j / e.sz] (Gl hk);have hone:=e.one q xs[j / e.sz];rw[Kd]at hone;refine hone v ?_;rw[<-q1,GL];refine⟨j % e.sz,?_⟩;rw[List.getElem?_take_of_lt (Nat.mod_lt _ hp),List.getElem?_drop,G0];have:j / e.sz*e.sz+j % e.sz=j:=Nat.div_add_mod' j e.sz;rw[this];exact hj
def Za1(h:H)(i o m c sz:Nat):Go.ZP.reads h (.slice (some ⟨i,o,none⟩) m c) sz=bif Nat.beq m 0 then some [] else
 match h.at i with
 | .row cs _ _=>bif Nat.ble (o+m*sz) cs.length then some ((cs.drop o).take (m*sz)) else none
 | _=>none:=by cases i<;>cases o<;>rfl
def Src.reads{wm:Nat}{a:O Addr}{c:Nat}{xs:U α}(s:Src e wm h a c xs):∃vs,reads h (.slice a xs.length c) e.sz=some vs/\vs.length=xs.length*e.sz/\Q7 e wm h vs 0 xs:=by
 rcases s.mem with z|⟨i,o,cs,own,z,h1,h2,h3⟩
 ·subst z;refine⟨[],?_,by simp,Q7.nil (by simp)⟩;rcases s.nl with⟨rfl,rfl⟩|⟨rfl,rfl⟩|⟨i,o,rfl⟩
  ·rfl
  ·rfl
  ·rw[Za1];rfl
 ·subst h1;by_cases hx:xs=[]
  ·subst hx;exact⟨[],by rw[Za1];rfl,by simp,Q7.nil (by simp)⟩
  ·have hl:=h3.len;have hpos:0<xs.length:=List.length_pos_iff.2 hx;refine⟨(cs.drop o).take (xs.length*e.sz),?_,by rw[Gu,GG];omega,h3.cut⟩;rw[Za1];have hb:Nat.beq xs.length 0=false:=by rw[Gg];intro hh;have:=Nb0 hh;omega
   simp only[hb,Cq0,h2];rw[Nm0 hl];rfl
def UR.mk'{wm:Nat}{h:H}{xs:U α}{vs:U N}{i c:Nat}(hm:xs.length<=9223372036854775807)(hlo:lo<=i)(hr:h.at i=.row vs true e.sz)(hc:xs.length<=c / 2)(hcl:(c / 2)*e.sz<=vs.length)(ha:Q7 e wm h vs 0 xs):UR e wm lo h (some ⟨i,0,none⟩) c xs:=
 ⟨hm,.inr ⟨i,0,vs,rfl,hlo,hr,hc,by omega,ha⟩⟩
def Zg9(P:V0)(ts:V4 J)(sz KX:Nat):Prop:=∃el z,Kt P ts=some (el,sz,KX,z)
def ZI1{K:Prop}{J':N->H->Prop}{ts:V4 J}{x y:GZ}{KX:Nat}{a a2:O Addr}{c c2:Nat}{xs ys zs:U α}(lo:Nat)(k':∀v E h1,Xt X h (YG fr) ⟨some d,.call {callee:=.builtin .append,args:=#[x,y],argTypes:=ts},ty,p,af,g⟩=some (.val v,E)->E.apply wm h=some h1->J' v h1->K)
 (hi:Zg9 X.P ts e.sz KX) (hw:wm<=lo) (hlo:lo<=h.size) (hx:YG fr x=some (.slice a xs.length c)) (hy:YG fr y=some (.slice a2 ys.length c2)) (so:UR e wm lo h a c xs) (sr:Src e wm h a2 c2 ys) (ha:app KX xs ys=some zs)
 (k:∀a' c' h',Up lo (Uf a) h h'->UR e wm lo h' a' c' zs->(∀i,Uf a' i->Uf a i\/i=h.size)->J' (.slice a' zs.length c') h'):K:=by
 obtain⟨rfl,hbd⟩:=ZAA ha;obtain⟨el,z,hi⟩:=hi;obtain⟨new,n1,n2,n3⟩:=sr.reads;have n4:=n3.one n2;have hpos:=e.pos;have hev:evs (YG fr) (#[x,y]:V4 GZ).toList=some [.slice a xs.length c,.slice a2 ys.length c2]:=Zb hx (Zb hy Zd);have hls:QJ (.slice a2 ys.length c2)=ys.length:=rfl
 have key:∀(v:N)(E:Eff),Q5 X.P h ts (.slice a xs.length c) (.slice a2 ys.length c2)=some (v,E)->Xt X h (YG fr) ⟨some d,.call {callee:=.builtin .append,args:=#[x,y],argTypes:=ts},ty,p,af,g⟩=some (.val v,E):=by
  intro v E hE;rw[Wx,hev];show vE (Q5 X.P h ts (.slice a xs.length c) (.slice a2 ys.length c2))=_;rw[hE];rfl
 have ZLJ:KX=0\/(2*(xs.length+ys.length)+1000)<=2 ^ 47:=by
  rcases Nat.eq_zero_or_pos KX with z|z
  ·exact .inl z
  ·right;have:(2*(xs.length+ys.length)+1000)*1<=(2*(xs.length+ys.length)+1000)*KX:=Nat.mul_le_mul_left _ z;rw[Nat.mul_one]at this;exact KB this hbd
 have hby:1<=KX:=by
  unfold Kt at hi;split at hi
  ·split at hi
   ·split at hi
    ·rename_i sz0 by0 z0 hs hb hz;cases hc:(Nat.ble 1 sz0&&Nat.ble 1 by0&&Nat.beq z0.cells.toList.length sz0)<;>rw[hc]at hi<;>simp at hi
     obtain⟨_,_,rfl,_⟩:=hi;rw[Ba0,Ba0]at hc;exact Nl0 hc.1.2
    ·cases hi
   ·cases hi
  ·cases hi
 have hmax:(xs++ys).length<=9223372036854775807:=by
  rw[K0];rcases ZLJ with z|z<;>omega
 have hle2:(xs++ys).length=xs.length+ys.length:=K0;rcases so.mem with⟨rfl,rfl,rfl⟩|⟨i,o,cs,rfl,hlo2,hrow,hc1,hc2,hel⟩
 ·-- of nothing
  by_cases hy0:ys=[]
  ·subst hy0;refine k' _ (.none) _ (key (V7) _ ?_) rfl ?_
   ·unfold Q5;rw[hi];dsimp only;rw[n1];rfl
   ·exact k none 0 h ⟨K1 _,fun _ _ _=>rfl,fun i hb=>by obtain⟨o,hb⟩:=hb;cases hb⟩ UR.nil (fun i hb=>by obtain⟨o,hb⟩:=hb;cases hb)
  ·have hyl:0<ys.length:=List.length_pos_iff.2 hy0;refine k' _ (.new (.row ([]++new) true e.sz)) _ (key (.slice (some ⟨h.size,0,none⟩) ([]++ys).length (2*([]++ys).length+1)) _ ?_) rfl ?_
   ·unfold Q5;rw[hi];dsimp only;rw[n1];dsimp only;rw[hls];have b1:Nat.ble (([]:U α).length+ys.length) (0 / 2)=false:=by rw[Gg];intro q;have q:=Nl0 q;rw[Gx,G0,Nat.zero_div]at q;omega
    rw[b1,Nm0 hbd,n4];simp only[Cq0,Bool.and_self,Cq1];have b2:reads h (.slice none ([]:U α).length 0) e.sz=some []:=rfl;rw[b2];simp
   ·refine k _ _ _ ⟨Nat.le_succ _,fun i hi _=>Ww hi _,fun i hb=>by obtain⟨o,hb⟩:=hb;cases hb⟩ ?_ (fun i hb=>by obtain⟨o,hb⟩:=hb;cases hb;exact .inr rfl);refine UR.mk' hmax hlo (QU h _) (by simp only[G5];omega) ?_ ?_
    ·simp only[G5];rw[n2];have:(2*ys.length+1) / 2=ys.length:=Va
     rw[this];omega
    ·simp only[G5];exact n3.mono ((Up.push lo h _).fz hw)
 ·have hown:(h.at i).own=true:=by rw[hrow];rfl
  have hil:i<h.size:=Qf hrow rfl;have hxl:o+xs.length*e.sz<=cs.length:=hel.len;by_cases hroom:xs.length+ys.length<=c / 2
  ·-- there is room
   by_cases hy0:ys=[]
   ·subst hy0;refine k' _ (.none) _ (key (.slice (some ⟨i,o,none⟩) xs.length c) _ ?_) rfl ?_
    ·unfold Q5;rw[hi];dsimp only;rw[n1];dsimp only;rw[hls,Nm0 hroom];rfl
    ·have:=k (some ⟨i,o,none⟩) c h ⟨K1 _,fun _ _ _=>rfl,fun j hb=>by obtain⟨o',hb⟩:=hb;cases hb;exact⟨hlo2,hown⟩⟩ (by simpa using so) (fun j hb=>.inl hb)
     simpa using this
   ·have hyl:0<ys.length:=List.length_pos_iff.2 hy0
    have hfit:o+xs.length*e.sz+new.length<=cs.length:=by
     rw[n2];have:(xs.length+ys.length)*e.sz<=c / 2*e.sz:=GR _ hroom;rw[Nat.add_mul]at this;omega
    refine k' _ (.upd i (.row (splice cs (o+xs.length*e.sz) new) true e.sz)) (h.put i (.row (splice cs (o+xs.length*e.sz) new) true e.sz)) (key (.slice (some ⟨i,o,none⟩) (xs++ys).length c) _ ?_) ?_ ?_
    ·unfold Q5;rw[hi];dsimp only;rw[n1];dsimp only;rw[hls,Nm0 hroom];have b1:Nat.beq ys.length 0=false:=by rw[Gg];intro q;have:=Nb0 q;omega
     rw[b1,hrow];simp only[Cq1,Cq0];rw[Nm0 hfit,n4,hle2];rfl
    ·show(bif Nat.ble wm i&&(h.at i).own then some (h.put i _) else none)=_;rw[hown,Nm0 (KB hw hlo2)];rfl
    ·have hu:Up lo (Uf (some ⟨i,o,none⟩)) h (h.put i (.row (splice cs (o+xs.length*e.sz) new) true e.sz)):=
      ⟨K1 _,fun j _ hn=>XT (fun q=>hn ⟨o,by rw[q]⟩) _,fun j hb=>by obtain⟨o',hb⟩:=hb;cases hb;exact⟨hlo2,hown⟩⟩
     refine k _ _ _ hu ⟨hmax,.inr ⟨i,o,_,rfl,hlo2,YU hil _,by rw[hle2];exact hroom,?_,?_⟩⟩ (fun j hb=>.inl hb)
     ·simp only[splice,K0,Gu,GG];omega
     ·refine Q7.ZJ2 ?_ (Q7.mono (hu.fz hw) ?_)
      ·simp only[splice,K0,Gu,GG,Nat.add_mul,<-n2];omega
      ·have e1:((splice cs (o+xs.length*e.sz) new).drop o).take ((xs++ys).length*e.sz)=(cs.drop o).take (xs.length*e.sz)++new:=by
        have l1:(cs.take (o+xs.length*e.sz)).length=o+xs.length*e.sz:=by rw[Gu];omega
        unfold splice;rw[Gf,List.drop_append_of_le_length Va,hle2,Nat.add_mul,<-n2,List.take_append];have l2:((cs.take (o+xs.length*e.sz)).drop o).length=xs.length*e.sz:=by rw[GG,l1];omega
        rw[l2,List.take_of_length_le (by rw[l2];omega),List.drop_take];congr 1
        ·congr 1;omega
        ·have:xs.length*e.sz+new.length-xs.length*e.sz=new.length:=Va
         rw[this,List.take_append_of_le_length Vb,List.take_of_length_le Vb]
       rw[e1];exact Q7.append (by rw[Gu,GG];omega) hel.cut n3
  ·-- it grows
   have b0:Nat.ble (xs.length+ys.length) (c / 2)=false:=by rw[Gg];intro q;exact hroom (Nl0 q)
   have hold:reads h (.slice (some ⟨i,o,none⟩) xs.length c) e.sz=some ((cs.drop o).take (xs.length*e.sz)):=by
    rw[Za1];cases hb:Nat.beq xs.length 0 with
    | true=>
      have:=Nb0 hb;rw[this];simp
    | false=>
      simp only[Cq0,hrow];rw[Nm0 hxl];rfl
   have hol:((cs.drop o).take (xs.length*e.sz)).length=xs.length*e.sz:=by rw[Gu,GG];omega
   have hrl:((cs.drop o).take (xs.length*e.sz)++new).length=(xs++ys).length*e.sz:=by rw[K0,hol,n2,hle2,Nat.add_mul]
   have hcap:(2*(xs++ys).length+1) / 2=(xs++ys).length:=Va
   cases ZCS:Nat.beq (c % 2) 0 with
   | true=>
     refine k' _ (.new (.row ((cs.drop o).take (xs.length*e.sz)++new) true e.sz)) _ (key (.slice (some ⟨h.size,0,none⟩) (xs++ys).length (2*(xs++ys).length+1)) _ ?_) rfl ?_
     ·unfold Q5;rw[hi];dsimp only;rw[n1];dsimp only;rw[hls,b0,Nm0 hbd,n4,hold,ZCS,hle2];rfl
     ·refine k _ _ _ ⟨Nat.le_succ _,fun j hj _=>Ww hj _,fun j hb=>by obtain⟨o',hb⟩:=hb;cases hb;exact⟨hlo2,hown⟩⟩ ?_ (fun j hb=>by obtain⟨o',hb⟩:=hb;cases hb;exact .inr rfl);refine UR.mk' hmax hlo (QU h _) Va (by rw[hcap,hrl];exact K1 _) ?_;exact(Q7.append hol hel.cut n3).mono ((Up.push lo h _).fz hw)
   | false=>
     refine k' _ (.grow i (.row ((cs.drop o).take (xs.length*e.sz)++new) true e.sz)) ((h.put i .dead).push (.row ((cs.drop o).take (xs.length*e.sz)++new) true e.sz)) (key (.slice (some ⟨h.size,0,none⟩) (xs++ys).length (2*(xs++ys).length+1)) _ ?_) ?_ ?_
     ·unfold Q5;rw[hi];dsimp only;rw[n1];dsimp only;rw[hls,b0,Nm0 hbd,n4,hold,ZCS];simp only[Cq0,Bool.and_self,Cq1];rw[hrow];dsimp only;rw[Nat.beq_refl,hle2];rfl
     ·show(bif Nat.ble wm i&&(h.at i).own&&true then some ((h.put i .dead).push _) else none)=_;rw[hown,Nm0 (KB hw hlo2)];rfl
     ·have hu:Up lo (Uf (some ⟨i,o,none⟩)) h ((h.put i .dead).push (.row ((cs.drop o).take (xs.length*e.sz)++new) true e.sz)):=
       ⟨Nat.le_succ _,fun j hj hn=>by rw[Ww (by simpa using hj),XT (fun q=>hn ⟨o,by rw[q]⟩)],fun j hb=>by obtain⟨o',hb⟩:=hb;cases hb;exact⟨hlo2,hown⟩⟩
      refine k _ _ _ hu ?_ (fun j hb=>by obtain⟨o',hb⟩:=hb;cases hb;exact .inr rfl);refine UR.mk' hmax hlo (by have:=QU (h.put i .dead) (.row ((cs.drop o).take (xs.length*e.sz)++new) true e.sz);simpa using this) Va (by rw[hcap,hrl];exact K1 _) ?_;exact(Q7.append hol hel.cut n3).mono (hu.fz hw)
end
def Uf.none{i:Nat}:¬ Uf Option.none i:=fun⟨_,h⟩=>by cases h
section
variable{α:Type}{e:JY α}{lo:Nat}{h':H}
end
def QE.frozen{ρ:Ren}{w:V3}{b d:Nat}{l:Nat×Nat}{cs:U N}{o:Z}{z z':Nat}(h:QE ρ w b d l (.row cs o z)):QE ρ w b d l (.row cs false z'):=by
 obtain⟨cc,el,fz,a,_,c,q⟩:=h;exact⟨cc,el,fz,a,(fun e=>by cases e),c,q⟩
def Rel.freeze{ρ:Ren}{h:H}{w:V3}{i:Nat}{cs:U N}{o:Z}{z:Nat}(hr:h.at i=.row cs o z)(r:Rel ρ h w):Rel ρ (h.put i (.row cs false 0)) w:=by
 have hi:=Qf hr rfl
 have hat:∀j,(h.put i (.row cs false 0)).at j=if j=i then .row cs false 0 else h.at j:=fun j=>by
  by_cases e:j=i
  ·subst e;rw[YU hi,if_pos rfl]
  ·rw[XT e,if_neg e]
 refine⟨r.dom,fun j b d e=>?_,fun j k b d d' e1 e2 ho hl=>?_⟩
 ·rw[hat];have:=r.obj j b d e;split
  ·rename_i e2;subst e2;rw[hr]at this;exact this.frozen
  ·exact this
 ·rw[hat]at ho hl;refine r.inj j k b d d' e1 e2 ?_ ?_
  ·split at ho
   ·cases ho
   ·exact ho
  ·split at hl
   ·rename_i e3;subst e3;rw[hr];rfl
   ·exact hl
def Stp.freeze{wm:Nat}{ρ ρ':Ren}{h h':H}{w w':V3}{i:Nat}{cs:U N}{z:Nat}(hw:wm<=i)(hr:h.at i=.row cs true z)(a:Stp wm ρ (h.put i (.row cs false 0)) w ρ' h' w'):Stp wm ρ h w ρ' h' w':=by
 have hi:=Qf hr rfl
 have hat:∀j,(h.put i (.row cs false 0)).at j=if j=i then .row cs false 0 else h.at j:=fun j=>by
  by_cases e:j=i
  ·subst e;rw[YU hi,if_pos rfl]
  ·rw[XT e,if_neg e]
 have hown:∀j,((h.put i (.row cs false 0)).at j).own=true->(h.at j).own=true:=fun j e=>by
  rw[hat]at e;split at e
  ·cases e
  ·exact e
 refine⟨a.ext,a.size,fun j hj=>?_,fun j hj e=>hown j (a.own j hj e),fun j hj e=>?_,a.os,a.tape,a.output,a.Y8,fun b hb hno=>a.frame b hb fun j d h1 h2 h3=>hno j d h1 h2 (hown j h3),fun j b d e e'=>?_⟩
 ·rw[a.keep j hj,hat,if_neg Va]
 ·have:=a.live j hj e;rw[hat]at this;split at this
  ·rename_i e2;subst e2;rw[hr];rfl
  ·exact this
 ·obtain⟨h1,h2⟩:=a.JE j b d e e';exact⟨h1,h2.imp id fun⟨k,d',q1,q2,q3⟩=>⟨k,d',q1,q2,hown k q3⟩⟩
def WO.Zgb{i:Nat}{cs:U N}{z:Nat}(hw:wm<=i)(hr:h.at i=.row cs true z)(k:WO X n wm rd ops l ⟨fr,ds,h.put i (.row cs false 0),none⟩ Q):WO X n wm rd ops l ⟨fr,ds,h,none⟩ Q:=by
 obtain⟨e,s',hq,hk⟩:=k;refine⟨e,s',hq,fun Q' ρ F a w hi Zy hF hq'=>hk Q' ⟨hi.rel.freeze hr,hi.fr,hi.ds⟩ (by simpa using Zy) hF fun e' a' w' hp=>hq' e' a' w' ?_⟩;obtain⟨ρ',h1,h2,h3⟩:=hp;exact⟨ρ',h1,h2,h3.freeze hw hr⟩
def WO.freeze{α:Type}{e:JY α}{lo:Nat}{a:O Addr}{c:Nat}{xs:U α}(hw:wm<=lo)(so:UR e wm lo h a c xs)(k:∀h',Up lo (Uf a) h h'->Sl e wm h' a c xs->WO X n wm rd ops l ⟨fr,ds,h',none⟩ Q):WO X n wm rd ops l ⟨fr,ds,h,none⟩ Q:=by
 rcases so.mem with⟨rfl,rfl,rfl⟩|⟨i,o,cs,rfl,h1,h2,h3,h4,h5⟩
 ·exact k h ⟨K1 _,fun _ _ _=>rfl,fun i hb=>by obtain⟨o,hb⟩:=hb;cases hb⟩ Sl.nil
 ·have hu:Up lo (Uf (some ⟨i,o,none⟩)) h (h.put i (.row cs false 0)):=
   ⟨K1 _,fun j _ hn=>XT (fun q=>hn ⟨o,by rw[q]⟩) _,fun j hb=>by obtain⟨o',hb⟩:=hb;cases hb;exact⟨h1,by rw[h2];rfl⟩⟩
  exact WO.Zgb (KB hw h1) h2 (k _ hu ⟨so.max,so.cap,so.nl,.inr ⟨i,o,cs,false,0,rfl,YU (Qf h2 rfl) _,.inr rfl,h5.mono (hu.fz hw)⟩⟩)
def WC.Zgb{cd:Code}{i:Nat}{cs:U N}{z:Nat}(hw:wm<=i)(hr:h.at i=.row cs true z)(k:WC X n wm rd cd ⟨fr,ds,h.put i (.row cs false 0),none⟩ Q):WC X n wm rd cd ⟨fr,ds,h,none⟩ Q:=by
 obtain⟨e,s',hq,hk⟩:=k;refine⟨e,s',hq,fun ρ a w F Zy hi hF=>wpIn_mono (hk ρ a w F (by simpa using Zy) ⟨hi.rel.freeze hr,hi.fr,hi.ds⟩ hF) ?_⟩;rintro e' a' w' ⟨ρ',h1,h2,h3⟩;exact⟨ρ',h1,h2,h3.freeze hw hr⟩
def WC.freeze{cd:Code}{α:Type}{e:JY α}{lo:Nat}{a:O Addr}{c:Nat}{xs:U α}(hw:wm<=lo)(so:UR e wm lo h a c xs)(k:∀h',Up lo (Uf a) h h'->Sl e wm h' a c xs->WC X n wm rd cd ⟨fr,ds,h',none⟩ Q):WC X n wm rd cd ⟨fr,ds,h,none⟩ Q:=by
 rcases so.mem with⟨rfl,rfl,rfl⟩|⟨i,o,cs,rfl,h1,h2,h3,h4,h5⟩
 ·exact k h ⟨K1 _,fun _ _ _=>rfl,fun i hb=>by obtain⟨o,hb⟩:=hb;cases hb⟩ Sl.nil
 ·have hu:Up lo (Uf (some ⟨i,o,none⟩)) h (h.put i (.row cs false 0)):=
   ⟨K1 _,fun j _ hn=>XT (fun q=>hn ⟨o,by rw[q]⟩) _,fun j hb=>by obtain⟨o',hb⟩:=hb;cases hb;exact⟨h1,by rw[h2];rfl⟩⟩
  exact WC.Zgb (KB hw h1) h2 (k _ hu ⟨so.max,so.cap,so.nl,.inr ⟨i,o,cs,false,0,rfl,YU (Qf h2 rfl) _,.inr rfl,h5.mono (hu.fz hw)⟩⟩)
def Yn.weaken{f:V2}{args:V4 N}{wm UC:Nat}{h h':H}{e:UW}(hw:UC<=wm)(hl:wm<=h.size)(j:Yn X (.call f args wm h) (.fin e h')):Yn X (.call f args UC h) (.fin e h'):=fun ρ args' w _ hr hv=>
 (j ρ args' w hl hr hv).mono fun _ _ ⟨ρ',h1,h2,h3⟩=>⟨ρ',h1,h2,h3.weaken hw⟩
end
section
variable{X:Ctx}{P:V0}
def ZdC{α β:Type}(s:Sem α)(f:α->Sem β):Zu P (s >>=f)=match Zu P s with
 | some (.ok a)=>Zu P (f a)
 | some (.error v)=>some (.error v)
 | none=>none:=by
 induction s with
 | pure a=>rfl
 | program k ih=>exact ih P
 | halt x=>cases x<;>rfl
 | load|store|new|shape|freeze|frozen|getObj|setObj|choose|sys|mark=>rfl
def prb{α β:Type}{s:Sem α}{f:α->Sem β}{a:α}(h:Zu P s=some (.ok a)):Zu P (s >>=f)=Zu P (f a):=by rw[ZdC,h]
def Y6 {t:J} {u:TypeDesc} (h:P.underlying t=some u):Zu P (underlying t)=some (.ok u):=by
 show Zu P (match P.underlying t with | some d=>pure d | none=>stuck "no such type")=_;rw [h];rfl
def eq_int {t:J} {k:IntKind} {a b:Int} {d:Nat} (hu:P.underlying t=some (.int k)):Zu P (Op.equalIn (d + 1) t (.int k a) (.int k b))=some (.ok (a==b)):=by
 unfold Op.equalIn;rw [prb (Y6 hu)];show Zu P (if k=k then pure (a==b) else stuck "==: kinds differ")=_;rw [if_pos rfl];rfl
def ZDA{t:J}{a b:Z}{d:Nat}(hu:P.underlying t=some .bool):Zu P (Op.equalIn (d+1) t (.bool a) (.bool b))=some (.ok (a==b)):=by
 unfold Op.equalIn;rw[prb (Y6 hu)];rfl
def ZIq{t:J}{a b:Y}{d:Nat}(hu:P.underlying t=some .string):Zu P (Op.equalIn (d+1) t (.string a) (.string b))=some (.ok (a==b)):=by
 unfold Op.equalIn;rw[prb (Y6 hu)];rfl
def ZcW{t:J}{cs:V4 N}{off:Nat}{v:N}(ht:YE P t=some false)(hv:cs[off]? =some v):Zu P (part t cs off)=some (.ok v):=by
 unfold YE at ht;unfold part isAgg;cases hu:P.underlying t with
 | none=>rw[hu]at ht;cases ht
 | some u=>
   rw[hu]at ht;rw[prb (a:=false)]
   ·simp only[hv];rfl
   ·rw[prb (Y6 hu)];cases u<;>first|rfl | (cases ht;done)
def FEq (P:V0) (d:Nat) (xs ys:V4 N):U Field ->U Z ->Prop
 | [],[]=>True
 | f::fl,b::bs=>(f.name ≠ "_" ∧∃ v w,Zu P (part f.type xs f.offset)=some (.ok v)∧Zu P (part f.type ys f.offset)=some (.ok w)∧Zu P (Op.equalIn d f.type v w)=some (.ok b))∧FEq P d xs ys fl bs
 | _,_=>False
def ZC8 {d:Nat} {xs ys:V4 N}:∀ {fl:U Field} {bs:U Z},FEq P d xs ys fl bs ->
 Zu P (forIn fl ((none:O Z),()) fun f _=>if f.name ≠ "_" then do
  let a ← part f.type xs f.offset
  let b ← part f.type ys f.offset
  let r ← Op.equalIn d f.type a b
  if(!r)=true then pure (ForInStep.done (some false,())) else pure (ForInStep.yield (none,()))
  else pure (ForInStep.yield (none,())):Sem (O Z×Unit))=some (.ok (bif bs.all id then none else some false,())):=by
 intro fl
 induction fl with
 | nil=>
   intro bs h;cases bs with
   | nil=>rfl
   | cons=>exact h.elim
 | cons f fl ih=>
   intro bs h;cases bs with
   | nil=>exact h.elim
   | cons b bs=>
     obtain⟨⟨h1,v,w,h2,h3,h4⟩,h5⟩:=h;rw [List.forIn_cons,if_pos h1,ZdC,prb h2,prb h3,prb h4];cases b with
     | false=>rfl
     | true=>
       have:=ih h5;have e:(true::bs).all id=bs.all id:=by simp
       rw [e,← this];rfl
def ZvN{t:J}{fs:V4 Field}{xs ys:V4 N}{d:Nat}{bs:U Z}(hu:P.underlying t=some (.struct fs))(hst:P.stoodInHeld t=false)(hf:FEq P d xs ys fs.toList bs):
 Zu P (Op.equalIn (d+1) t (.agg xs) (.agg ys))=some (.ok (bs.all id)):=by
 unfold Op.equalIn;rw[prb (Y6 hu)];show Zu P (if P.stoodInHeld t=true then _ else _)=_;rw[hst,if_neg (by simp)];dsimp only;have:=ZC8 hf;rw[<-Array.forIn_toList];rw[prb this];cases bs.all id<;>rfl
def Zqc{t:J}{x y:GZ}{xs ys:V4 N}{op:BinOp}(hop:op=.eql\/op=.neq)(hg:P.eqGuardType P.depth t=false):Zu P (eqGuard op t x y (.agg xs) (.agg ys))=some (.ok ()):=by
 rcases hop with rfl|rfl
 ·show Zu P (if(!P.eqGuardType P.depth t)=true then _ else _)=_;rw[hg];rfl
 ·show Zu P (if(!P.eqGuardType P.depth t)=true then _ else _)=_;rw[hg];rfl
def ZN3(P:V0)(t:J)(xs ys:U N)(b:Z):Prop:=P.eqGuardType P.depth t=false/\Zu P (Op.equal t (.agg xs.toArray) (.agg ys.toArray))=some (.ok b)
def ZAV{t:J}{x y:GZ}{xs ys:U N}{b:Z}(h:ZN3 P t xs ys b)(h1:xs.all scalar=true)(h2:ys.all scalar=true):QO P .eql t x y (.agg xs.toArray) (.agg ys.toArray)=some (.val (.bool b),.none):=by
 have hp:(plain (.agg xs.toArray)&&plain (.agg ys.toArray))=true:=by
  have e1:plain (.agg xs.toArray)=xs.all scalar:=rfl;have e2:plain (.agg ys.toArray)=ys.all scalar:=rfl;rw[e1,e2,h1,h2];rfl
 unfold QO;rw[hp,Cq1];unfold KJ;rw[prb (Zqc (.inl rfl) h.1)]
 have:Zu P (binOp .eql t (.agg xs.toArray) (.agg ys.toArray))=some (.ok (.bool b)):=by
  show Zu P (do pure (Value.bool (<-Op.equal t (.agg xs.toArray) (.agg ys.toArray))):Sem N)=_;rw[prb h.2];rfl
 rw[this];rfl
def Zdm{h:H}{t:J}{b o oo j:Nat}{vs:U N}{v:N}(ht:YE P t=some false)(ha:At h b o vs)(ho:oo=o+j)(hv:vs[j]? =some v):Ki P h t (.pointer (some ⟨b,oo,none⟩))=some v:=by
 obtain⟨cs,own,z,h1,h2⟩:=ha.cell hv;subst ho;exact Slc.load h1 ht h2
def Xc{h:H}{t:J}{b o oo j sz:Nat}{vs ws:U N}(ht:YE P t=some true)(hs:Yz P t=some sz)(ha:At h b o vs)(ho:oo=o+j)(hj:Nat.ble (j+sz) vs.length=true)(hv:(vs.drop j).take sz=ws):Ki P h t (.pointer (some ⟨b,oo,none⟩))=some (.agg ws.toArray):=by
 obtain⟨cs,own,z,h1,h2,h3⟩:=ha.part (Nl0 hj) hv;subst ho;exact Zmd ht hs h1 h2 h3
def Zk{fr:Fr}{h:H}:Zcw P fr h []=some []:=rfl
def ZG{fr:Fr}{h:H}{t:Nat}{v:N}{rs:U ResultVar}{vs:U N}(hv:YG fr (.tmp t)=some v)(hr:Zcw P fr h rs=some vs):Zcw P fr h (.tmp t::rs)=some (v::vs):=by
 have e:ZqE P fr h (.tmp t)=some v:=hv;simp only[Zcw,e,hr]
def YP{fr:Fr}{h:H}{a t:Nat}{p v:N}{rs:U ResultVar}{vs:U N}(hp:fr.at a=p)(hv:Ki P h t p=some v)(hr:Zcw P fr h rs=some vs):Zcw P fr h (.cell a t::rs)=some (v::vs):=by
 have e:ZqE P fr h (.cell a t)=some v:=by show Ki P h t (fr.at a)=some v;rw[hp];exact hv
 simp only[Zcw,e,hr]
def Y0.Jb{fn:Func}{R:N->H->Prop}{fr:Fr}{h:H}{wr:O Nat}{rs:U ResultVar}{v:N}(hr:fn.results.toList=rs)(hv:Zcw X.P fr h rs=some [v])(k:R v h):Y0 X fn (fun e h'=>∃v,e=.ret v/\R v h') .ret ⟨fr,[],h,wr⟩:=by
 refine⟨⟨rfl,v,?_,v,rfl,k⟩⟩;unfold QH;dsimp only;rw[hr,hv]
def Y0.gen{fn:Func}{R:N->H->Prop}{fr:Fr}{h:H}{wr:O Nat}{rs:U ResultVar}{vs:U N}(hr:fn.results.toList=rs)(hv:Zcw X.P fr h rs=some vs)(hl:Nat.beq vs.length 1=false)(k:R (.tuple vs.toArray) h):Y0 X fn (fun e h'=>∃v,e=.ret v/\R v h') .ret ⟨fr,[],h,wr⟩:=by
 refine⟨⟨rfl,_,?_,_,rfl,k⟩⟩;unfold QH;dsimp only;rw[hr,hv]
 match vs,hl with
 | [],_=>rfl
 | [_],h=>cases h
 | _::_::_,_=>rfl
def Y0.Yc{fn:Func}{R:UW->H->Prop}{s:Fs}(k:Y0 X fn R .ret s):Y0 X fn R .normal s:=⟨k.out⟩
def Zkt{op:BinOp}{t:J}{x y:GZ}{a b r:Z}(hu:P.underlying t=some .bool)(h:op=.eql/\r=(a==b)\/op=.neq/\r=(a !=b)):QO P op t x y (.bool a) (.bool b)=some (.val (.bool r),.none):=by
 have hp:(plain (.bool a)&&plain (.bool b))=true:=rfl;have h2:Zu P (Op.equal t (.bool a) (.bool b))=some (.ok (a==b)):=ZDA (d:=9999) hu;unfold QO;rw[hp,Cq1];unfold KJ;rcases h with⟨rfl,rfl⟩|⟨rfl,rfl⟩
 ·have h1:Zu P (eqGuard .eql t x y (.bool a) (.bool b))=some (.ok ()):=rfl;rw[prb h1]
  have:Zu P (binOp .eql t (.bool a) (.bool b))=some (.ok (.bool (a==b))):=by
   show Zu P (do pure (Value.bool (<-Op.equal t (.bool a) (.bool b))):Sem N)=_;rw[prb h2];rfl
  rw[this];rfl
 ·have h1:Zu P (eqGuard .neq t x y (.bool a) (.bool b))=some (.ok ()):=rfl;rw[prb h1]
  have:Zu P (binOp .neq t (.bool a) (.bool b))=some (.ok (.bool (a !=b))):=by
   show Zu P (do pure (Value.bool (!(<-Op.equal t (.bool a) (.bool b)))):Sem N)=_;rw[prb h2];rfl
  rw[this];rfl
def Zwg{t:J}{x y:GZ}{a b:Z}(hu:P.underlying t=some .bool):QO P .eql t x y (.bool a) (.bool b)=some (.val (.bool (a==b)),.none):=Zkt hu (.inl ⟨rfl,rfl⟩)
def Zwc{t:J}{x y:GZ}{a b:Z}(hu:P.underlying t=some .bool):QO P .neq t x y (.bool a) (.bool b)=some (.val (.bool (a !=b)),.none):=Zkt hu (.inr ⟨rfl,rfl⟩)
end
section
abbrev SfT:=U (Nat×Nat×Nat×(YS->Prop))×U (Nat×U Nat)
variable{X:Ctx}{n wm:Nat}{rd:O Nat}{ops:V4 Oper}{l:U Oper}{fr:Fr}{ds:U V6}{h h1:H}{ty:J}{p:String}{af:V4 Edge}{g:O (Nat×Z)}{m:Nat}{sf:SfT}
def ZFP(A:YS):Prop:=∀(ρ ρ':Ren)(w:V3)(b d:Nat)(l:Nat×Nat),QE ρ w b d l A->QE ρ' w b d l A
def Prm(P:V0)(wm:Nat)(rd:O Nat)(ops:V4 Oper)(o:Oper)(fr:Fr)(h:H)(v:N)(x:Nat)(C:YS->Prop):Prop:=
 x<h.size/\ZFP (h.at x)/\Qn P wm rd ops o (fun _=>False) fr h v h/\∀A,C A->ZFP A/\Qn P wm rd ops o (fun _=>False) fr (h.put x A) v (h.put x A)
variable{Q:Fr->H->Prop}
def ZN1(wm:Nat)(t:O Nat):MOf false wm t=fun x=>t=some x:=by funext x;unfold MOf;simp
def SU(X:Ctx)(wm:Nat)(o:Oper)(fr:Fr)(h:H)(h1:H)(tg:Z):Prop:=∃E,Xt X h (YG fr) o=some (.skip,E)/\E.apply wm h=some h1/\(tg=false->E.tgt=none)
def ZAe{ps:U Nat}{i j:Nat}(h:i≠j):comp ps i j=comp ps j i:=by
 unfold comp;rcases Gp i j with z|z
 ·have h1:Nat.blt i j=true:=by rw[G4];exact z
  have h2:Nat.blt j i=false:=by rw[Gg];intro q;rw[G4]at q;omega
  rw[h1,h2];rfl
 ·have h1:Nat.blt j i=true:=by rw[G4];omega
  have h2:Nat.blt i j=false:=by rw[Gg];intro q;rw[G4]at q;omega
  rw[h1,h2];rfl
def ZJ6{x y:GZ}{t:J}{b o z sz:Nat}{cs cs' vs:U N}{v:N}{d:O Tmp}(hs:Yz X.P t=some sz)(hx:YG fr x=some (.pointer (some ⟨b,o,none⟩)))(hy:YG fr y=some v)
 (hr:h.at b=.row cs true z) (hb:wm<=b) (hvs:v.cells.toList=vs) (hn:vs.length=sz) (hl:o+sz<=cs.length) (hc:vs.all Value.oneCell'=true) (hv:splice cs o vs=cs'):
 Xt X h (YG fr) ⟨d,.store t x y,ty,p,af,g⟩=some (.skip,.upd b (.row cs' true z))/\(Eff.upd b (.row cs' true z)).apply wm h=some (h.put b (.row cs' true z)):=by
 subst hvs;refine⟨?_,?_⟩
 ·rw[Zv3,hx,hy];dsimp only
  have:Zgz X.P h t (.pointer (some ⟨b,o,none⟩)) v=some (.upd b (.row cs' true z)):=by
   unfold Zgz;rw[hs];dsimp only;rw[hr];dsimp only;have h1:Nat.beq v.cells.toList.length sz=true:=by rw[hn];exact Nat.beq_refl sz
   have h2:Nat.ble (o+sz) cs.length=true:=Nm0 hl;rw[h1,h2,hc,hv];rfl
  rw[this];rfl
 ·show(bif Nat.ble wm b&&(h.at b).own then some (h.put b (.row cs' true z)) else none)=_;rw[hr];have:Nat.ble wm b=true:=Nm0 hb;rw[this];rfl
def XL{d:O Tmp}{t:J}{ps:V4 (Nat×GZ)}{zs cs':U N}{pl:U (Nat×Nat)}{pvs:U (Nat×N)}{ev:GZ->O N}(hb:JQ X.P t zs pl)(hp:evp ev ps.toList=some pvs)(ho:Zjk (fun i=>pl[i]?) zs.length pvs=true)(hv:ZpP (fun i=>(pl.getD i (0,0)).1) zs pvs=cs'):
 Xt X h ev ⟨d,.build t ps,ty,p,af,g⟩=some (.val (.agg cs'.toArray),.none):=by
 subst hv;obtain⟨z,fs,h1,rfl,h3,h4⟩:=hb;show(match evp ev ps.toList with|some ps=>vN (Zkr X.P t ps) | none=>none)=_;rw[hp];dsimp only;unfold Zkr;rw[h1,h3];dsimp only;rw[h4];dsimp only;rw[ZqK (off:=fun i=>(pl.getD i (0,0)).1) (fun i p e=>by rw[Gh,e];rfl) _ _ ho]
 rfl
section
variable{α:Type}{e:JY α}
end
end
section
variable{X:Ctx}{P:V0}{κ ν:Type}[DecidableEq κ]
structure ZgI(P:Program)(kt:TypeId)(kv:κ->Value):Prop where
 pl:∀x,plain (kv x)=true
 ok:∀e x,Zbs P e kt (kv x)=true
 same:∀x,Instr.sameBits 10000 (kv x) (kv x)=true
 eq:∀x y,Zu P (Op.equal kt (kv x) (kv y))=some (.ok (decide (x=y)))
 kind:∃u,P.underlying kt=some u/\((∀x y,Instr.sameNow u (kv x) (kv y)=none)\/∀x y,Instr.sameNow u (kv x) (kv y)=some (decide (x=y)))
def Xx(kv:κ->N)(vv:ν->N)(l:U (κ×ν))(bs:U Nat):U V5:=List.zipWith (fun p b=>⟨kv p.1,vv p.2,b⟩) l bs
variable{kt:J}{kv:κ->N}{vv:ν->N}
theorem ZpO(K:ZgI P kt kv)(k:κ):∀(l:U (κ×ν))(bs:U Nat)(i:Nat),bs.length=l.length->Zu P (Instr.findAsking kt (kv k) (Xx kv vv l bs) i)=some (.ok ((Yg l k).map fun q=>(i+q.1,vv q.2))):=by
 intro l
 induction l with
 | nil=>intro bs i _;rfl
 | cons p l ih=>
   intro bs i hb;cases bs with
   | nil=>cases hb
   | cons b bs=>
     show Zu P (do if <-Op.equal kt (kv k) (kv p.1) then pure (some (i,vv p.2)) else Instr.findAsking kt (kv k) (Xx kv vv l bs) (i+1))=_;rw[prb (K.eq k p.1)];unfold Yg;by_cases e:p.1=k
     ·rw[if_pos e,decide_eq_true e.symm];rfl
     ·rw[if_neg e,decide_eq_false (fun z=>e z.symm)];show Zu P (Instr.findAsking kt (kv k) (Xx kv vv l bs) (i+1))=_;rw[ih bs (i+1) (by simpa using hb)];cases Yg l k with
      | none=>rfl
      | some q=>simp[GF,Nat.add_comm 1]
theorem Zzq{u:TypeDesc}(hs:∀x y,Instr.sameNow u (kv x) (kv y)=some (decide (x=y)))(k:κ):∀(l:U (κ×ν))(bs:U Nat)(i:Nat),bs.length=l.length->Instr.findNow u (kv k) (Xx kv vv l bs) i=some ((Yg l k).map fun q=>(i+q.1,vv q.2)):=by
 intro l
 induction l with
 | nil=>intro bs i _;rfl
 | cons p l ih=>
   intro bs i hb;cases bs with
   | nil=>cases hb
   | cons b bs=>
     show(match Instr.sameNow u (kv k) (kv p.1) with|some true=>some (some (i,vv p.2)) | some false=>Instr.findNow u (kv k) (Xx kv vv l bs) (i+1) | none=>none)=_;rw[hs];unfold Yg;by_cases e:p.1=k
     ·rw[if_pos e,decide_eq_true e.symm];rfl
     ·rw[if_neg e,decide_eq_false (fun z=>e z.symm)];show Instr.findNow u (kv k) (Xx kv vv l bs) (i+1)=_;rw[ih bs (i+1) (by simpa using hb)];cases Yg l k with
      | none=>rfl
      | some q=>simp[GF,Nat.add_comm 1]
theorem ZfF(K:ZgI P kt kv)(k:κ)(l:U (κ×ν))(bs:U Nat)(hb:bs.length=l.length):Zg8 P kt (kv k) (Xx kv vv l bs)=some ((Yg l k).map fun q=>(q.1,vv q.2)):=by
 obtain⟨u,hu,hk⟩:=K.kind;unfold Zg8 Instr.findKey;rw[prb (Y6 hu)];rcases hk with hk|hk
 ·cases l with
  | nil=>cases bs with
    | nil=>rfl
    | cons=>cases hb
  | cons p l=>
    cases bs with
    | nil=>cases hb
    | cons b bs=>
      have:Instr.findNow u (kv k) (Xx kv vv (p::l) (b::bs)) 0=none:=by
       show(match Instr.sameNow u (kv k) (kv p.1) with|some true=>some (some (0,vv p.2)) | some false=>Instr.findNow u (kv k) (Xx kv vv l bs) (0+1) | none=>none)=_;rw[hk]
      rw[this];dsimp only;rw[ZpO K k (p::l) (b::bs) 0 hb];simp
 ·rw[Zzq hk k l bs 0 hb];simp only[G0];rfl
omit [DecidableEq κ] in
theorem ZoV{l l2:U (κ×ν)}{bs b2:U Nat}(hb:bs.length=l.length):Xx kv vv (l++l2) (bs++b2)=Xx kv vv l bs++Xx kv vv l2 b2:=by
 unfold Xx;rw[List.zipWith_append hb.symm]
omit [DecidableEq κ] in
theorem ZxK{l:U (κ×ν)}{bs:U Nat}{j:Nat}{p:κ×ν}{b:Nat}(h1:l[j]? =some p)(h2:bs[j]? =some b):(Xx kv vv l bs)[j]? =some ⟨kv p.1,vv p.2,b⟩:=by
 unfold Xx;rw[List.getElem?_zipWith,h1,h2]
omit [DecidableEq κ] in
theorem ZoT{l:U (κ×ν)}{bs:U Nat}(f:V5->V5)(g:κ×ν->κ×ν)(hfg:∀p b,f ⟨kv p.1,vv p.2,b⟩=⟨kv (g p).1,vv (g p).2,b⟩)(j:Nat):(Xx kv vv l bs).modify j f=Xx kv vv (l.modify j g) bs:=by
 induction l generalizing bs j with
 | nil=>simp[Xx]
 | cons p l ih=>
   cases bs with
   | nil=>simp[Xx]
   | cons b bs=>
     cases j with
     | zero=>simp only[Xx,List.zipWith_cons_cons,List.modify_zero_cons,hfg]
     | succ j=>simp only[Xx,List.zipWith_cons_cons,List.modify_succ_cons];congr 1;exact ih j
structure MapAt(kv:κ->Value)(vv:ν->Value)(h:H)(m:Option Nat)(l:List (κ×ν)):Prop where
 mem:(m=none/\l=[])\/∃i bs Qe,m=some i/\h.at i=.map (Xx kv vv l bs) Qe/\bs.length=l.length/\bs.Nodup/\∀b∈bs,b<Qe
structure Zld(kv:κ->Value)(vv:ν->Value)(wm:Nat)(h:H)(m:Option Nat)(l:List (κ×ν)):Prop where
 at_:MapAt kv vv h m l
 low:∀i,m=some i->i<wm
structure Zle(kv:κ->Value)(vv:ν->Value)(lo:Nat)(h:H)(m:Option Nat)(l:List (κ×ν)):Prop where
 at_:MapAt kv vv h m l
 low:∀i,m=some i->lo<=i
variable{wm lo:Nat}{h h':H}{m:O Nat}{l:U (κ×ν)}
theorem map_lt{i:Nat}{es:U V5}{c:Nat}(e:h.at i=.map es c):i<h.size:=Qf e rfl
omit [DecidableEq κ] in
theorem MapAt.lt(s:MapAt kv vv h m l){i:Nat}(e:m=some i):i<h.size:=by
 rcases s.mem with⟨q,_⟩|⟨j,bs,Qe,q,h1,_⟩
 ·rw[q]at e;cases e
 ·rw[q]at e;cases e;exact map_lt h1
omit [DecidableEq κ] in
theorem MapAt.keep(s:MapAt kv vv h m l)(k:∀i,m=some i->h'.at i=h.at i):MapAt kv vv h' m l:=
 ⟨s.mem.imp id fun⟨i,bs,Qe,q,h1,h2⟩=>⟨i,bs,Qe,q,by rw[k i q];exact h1,h2⟩⟩
omit [DecidableEq κ] in
theorem Zld.fz(s:Zld kv vv wm h m l)(f:Fz wm h h'):Zld kv vv wm h' m l:=⟨s.at_.keep fun i e=>f.low i (s.low i e) (s.at_.lt e),s.low⟩
omit [DecidableEq κ] in
theorem MapAt.all(s:MapAt kv vv h m l):Zld kv vv h.size h m l:=⟨s,fun _ e=>s.lt e⟩
omit [DecidableEq κ] in
theorem Zle.nil:Zle kv vv lo h none ([]:U (κ×ν)):=⟨⟨.inl ⟨rfl,rfl⟩⟩,fun i e=>by cases e⟩
section
variable{ops:V4 Oper}{ol:U Oper}{fr:Fr}{ds:U V6}{ty:J}{p:String}{af:V4 Edge}{g:O (Nat×Z)}{d:O Tmp}{vt:J}{ev:GZ->O N}
omit [DecidableEq κ] in
theorem Zuo(s:MapAt kv vv h m l):∃bs c,Zhk h (.map m)=some (Xx kv vv l bs,c)/\bs.length=l.length:=by
 rcases s.mem with⟨rfl,rfl⟩|⟨i,bs,Qe,rfl,h1,h2,_⟩
 ·exact⟨[],0,rfl,rfl⟩
 ·refine⟨bs,Qe,?_,h2⟩;unfold Zhk;dsimp only;rw[h1]
theorem ZIW{t:J}{x y:GZ}{k:κ}{z:ν}(K:ZgI X.P kt kv)(hu:X.P.underlying t=some (.map kt vt))(hz:YM X.P vt=some (vv z))(hx:ev x=some (.map m))(hy:ev y=some (kv k))(s:MapAt kv vv h m l):
 Xt X h ev ⟨d,.lookup t x y false,ty,p,af,g⟩=some (.val (vv ((ZR l k).getD z)),.none):=by
 obtain⟨bs,c,h1,h2⟩:=Zuo s;show(match ev x,ev y with|some m,some k=>vN (Ku X.P h t m k false) | _,_=>none)=_;rw[hx,hy];dsimp only
 have:Ku X.P h t (.map m) (kv k) false=some (vv ((ZR l k).getD z)):=by
  unfold Ku;rw[hu,h1];dsimp only;rw[K.ok,Cq1,ZfF K k l bs h2];unfold ZR;cases Yg l k with
  | some q=>rfl
  | none=>
    show(match YM X.P vt with|some z=>some (bif false then Value.tuple #[z,.bool false] else z) | none=>none)=_;rw[hz];rfl
 rw[this];rfl
theorem Zul{t:J}{x y:GZ}{k:κ}{z:ν}(K:ZgI X.P kt kv)(hu:X.P.underlying t=some (.map kt vt))(hz:YM X.P vt=some (vv z))(hx:ev x=some (.map m))(hy:ev y=some (kv k))(s:MapAt kv vv h m l):
 Xt X h ev ⟨d,.lookup t x y true,ty,p,af,g⟩=some (.val (.tuple #[vv ((ZR l k).getD z),.bool (ZR l k).isSome]),.none):=by
 obtain⟨bs,c,h1,h2⟩:=Zuo s;show(match ev x,ev y with|some m,some k=>vN (Ku X.P h t m k true) | _,_=>none)=_;rw[hx,hy];dsimp only
 have:Ku X.P h t (.map m) (kv k) true=some (.tuple #[vv ((ZR l k).getD z),.bool (ZR l k).isSome]):=by
  unfold Ku;rw[hu,h1];dsimp only;rw[K.ok,Cq1,ZfF K k l bs h2];unfold ZR;cases Yg l k with
  | some q=>rfl
  | none=>
    show(match YM X.P vt with|some z=>some (bif true then Value.tuple #[z,.bool false] else z) | none=>none)=_;rw[hz];rfl
 rw[this];rfl
theorem Zdk{t:J}{x y:GZ}{k:κ}{z v:ν}{w:N}(K:ZgI X.P kt kv)(hu:X.P.underlying t=some (.map kt vt))(hz:YM X.P vt=some (vv z))(hx:ev x=some (.map m))(hy:ev y=some (kv k))(s:MapAt kv vv h m l)(hv:ZkM l k z=some v)(hw:vv v=w):
 Xt X h ev ⟨d,.lookup t x y false,ty,p,af,g⟩=some (.val w,.none):=by
 rw[ZIW K hu hz hx hy s,Oi0 hv,hw]
theorem ZAw{t:J}{x y:GZ}{k:κ}{z:ν}{v:ν×Z}{w:N}(K:ZgI X.P kt kv)(hu:X.P.underlying t=some (.map kt vt))(hz:YM X.P vt=some (vv z))(hx:ev x=some (.map m))(hy:ev y=some (kv k))(s:MapAt kv vv h m l)(hv:Zxk l k z=some v)(hw:vv v.1=w):
 Xt X h ev ⟨d,.lookup t x y true,ty,p,af,g⟩=some (.val (.tuple #[w,.bool v.2]),.none):=by
 have:=Oi0 hv;subst this;rw[Zul K hu hz hx hy s,hw]
theorem Zuc{i:Nat}{es es':U V5}{c c':Nat}(hw:wm<=i)(h1:h.at i=.map es c):Eff.apply wm h (.upd i (.map es' c'))=some (h.put i (.map es' c')):=by
 show(bif Nat.ble wm i&&(h.at i).own then some (h.put i _) else none)=_;rw[h1,Nm0 hw];rfl
theorem ZwG{i:Nat}{es:U V5}{c:Nat}{A:YS}(hl:lo<=i)(h1:h.at i=.map es c):Up lo (fun j=>some i=some j) h (h.put i A):=
 ⟨K1 _,fun j _ hn=>XT (fun q=>hn (by rw[q])) A,fun j e=>by cases e;exact⟨hl,by rw[h1];rfl⟩⟩
theorem ZGf{fr:Fr}{t:J}{x y z:GZ}{k:κ}{v:ν}(K:ZgI X.P kt kv)(hu:X.P.underlying t=some (.map kt vt))(hw:wm<=lo)(hx:YG fr x=some (.map m))(hm:m.isSome=true)(hy:YG fr y=some (kv k))(hz:YG fr z=some (vv v))(s:Zle kv vv lo h m l):
 ∃h',SU X wm ⟨d,.mapUpdate t x y z,ty,p,af,g⟩ fr h h' true/\Up lo (fun j=>m=some j) h h'/\Zle kv vv lo h' m (Xw l k v):=by
 obtain⟨i,rfl⟩:=GT.1 hm;have hlo:=s.low i rfl;rcases s.at_.mem with⟨q,_⟩|⟨j,bs,Qe,q,h1,h2,h3,h4⟩
 ·cases q
 ·cases q
  have key:∀E,Qm X.P h t (.map (some i)) (kv k) (vv v)=some E->Xt X h (YG fr) ⟨d,.mapUpdate t x y z,ty,p,af,g⟩=some (.skip,E):=fun E hE=>by
   show(match YG fr x,YG fr y,YG fr z with|some m,some k,some x=>sE (Qm X.P h t m k x) | _,_,_=>none)=_;rw[hx,hy,hz];dsimp only;rw[hE];rfl
  have ham:Zhk h (.map (some i))=some (Xx kv vv l bs,Qe):=by unfold Zhk;dsimp only;rw[h1]
  cases e:Yg l k with
  | some q=>
    have hq:=Za7 e;have hql:q.1<bs.length:=by rw[h2];exact(Li0 hq).1
    have hbq:bs[q.1]? =some bs[q.1]:=Gl hql
    have hmod:(Xx kv vv l bs).modify q.1 (fun e=>{e with key:=kv k,val:=vv v})=Xx kv vv (l.modify q.1 fun p=>(p.1,v)) bs:=by
     have h5:(Xx kv vv l bs).modify q.1 (fun e=>{e with key:=kv k,val:=vv v})=Xx kv vv (l.modify q.1 fun _=>(k,v)) bs:=ZoT _ _ (fun p b=>rfl) _;rw[h5];congr 1;apply GU;intro n;rw[List.getElem?_modify,List.getElem?_modify];by_cases hn:q.1=n
     ·subst hn;rw[hq];simp
     ·simp[hn]
    refine⟨_,⟨.upd i (.map (Xx kv vv (l.modify q.1 fun p=>(p.1,v)) bs) Qe),key _ ?_,Zuc (KB hw hlo) h1,fun z=>by cases z⟩,ZwG hlo h1,⟨⟨.inr ⟨i,bs,Qe,rfl,?_,?_,h3,h4⟩⟩,s.low⟩⟩
    ·unfold Qm;rw[hu,ham];dsimp only;rw[K.ok,Cq1,ZfF K k l bs h2,e];dsimp only[Option.map_some];rw[ZxK hq hbq];dsimp only;rw[K.same,Cq1,hmod]
    ·rw[YU (map_lt h1)];unfold Xw;rw[e]
    ·unfold Xw;rw[e];simpa using h2
  | none=>
    refine⟨_,⟨.upd i (.map (Xx kv vv (l++[(k,v)]) (bs++[Qe])) (Qe+1)),key _ ?_,Zuc (KB hw hlo) h1,fun z=>by cases z⟩,ZwG hlo h1,⟨⟨.inr ⟨i,bs++[Qe],Qe+1,rfl,?_,?_,?_,?_⟩⟩,s.low⟩⟩
    ·unfold Qm;rw[hu,ham];dsimp only;rw[K.ok,Cq1,ZfF K k l bs h2,e,ZoV h2];rfl
    ·rw[YU (map_lt h1)];unfold Xw;rw[e]
    ·unfold Xw;rw[e];simp[h2]
    ·rw[List.nodup_append];exact⟨h3,by simp,fun a ha b hb=>by simp at hb;subst hb;exact Nat.ne_of_lt (h4 a ha)⟩
    ·intro b hb;rw[Q1]at hb;rcases hb with hb|hb
     ·have:=h4 b hb;omega
     ·simp at hb;omega
end
end
section
variable{P:V0}
def ZIB{e:Z}{t:J}{v:N}{d:Nat}(hu:P.underlying t=some .string):Zu P (Instr.checkKey e (d+1) t v)=some (.ok ()):=by
 unfold Instr.checkKey;rw[prb (Y6 hu)];rfl
end
section
variable{X:Ctx}{n wm lo:Nat}{Q:XX->Fs->Prop}{fr:Fr}{ds:U V6}{h:H}
structure BdK(n lo l:Nat)(fr:Fr)(ps:Array Tmp)(YH bd:Code)(df:Nat)(R:H->Prop)(e:XX)(s:Fs):Prop where
 out:e=.normal/\s.h.at l=.loop .busy none fr n ps YH bd df/\∀h',(lo<=l->Up lo (fun i=>i=l) s.h h')->h'.at l=.loop .ready none fr n ps YH bd df->R h'
structure AsK(X:Ctx)(n wm lo l:Nat)(fr:Fr)(ps:Array Tmp)(YH bd:Code)(df:Nat)(R:H->Prop)(e:XX)(s:Fs):Prop where
 out:e=.normal/\s.h.at l=.loop .ready none fr n ps YH bd df/\∀h1,(lo<=l->Up lo (fun i=>i=l) s.h h1)->h1.at l=.loop .busy none fr n ps YH bd df->WC X n wm (some l) bd ⟨s.fr,s.ds,h1,s.wr⟩ (BdK n lo l fr ps YH bd df R)
def BdK.mk'{l:Nat}{fr Jd:Fr}{ps:V4 Tmp}{YH bd:Code}{df:Nat}{R:H->Prop}(h1:h.at l=.loop .busy none fr n ps YH bd df)(k:∀h',(lo<=l->Up lo (fun i=>i=l) h h')->h'.at l=.loop .ready none fr n ps YH bd df->R h'):BdK n lo l fr ps YH bd df R .normal ⟨Jd,ds,h,none⟩:=⟨⟨rfl,h1,k⟩⟩
def AsK.mk'{l:Nat}{fr Jd:Fr}{ps:V4 Tmp}{YH bd:Code}{df:Nat}{R:H->Prop}(h1:h.at l=.loop .ready none fr n ps YH bd df)(k:∀h1,(lo<=l->Up lo (fun i=>i=l) h h1)->h1.at l=.loop .busy none fr n ps YH bd df->WC X n wm (some l) bd ⟨Jd,ds,h1,none⟩ (BdK n lo l fr ps YH bd df R)):AsK X n wm lo l fr ps YH bd df R .normal ⟨Jd,ds,h,none⟩:=⟨⟨rfl,h1,k⟩⟩
def ZA3(X:Ctx)(l:Nat)(args:V4 N)(wm:Nat)(h:H)(R:Z->H->Prop):Prop:=∃b h',R b h'/\Yn X (.round l args wm h) (.fin (.ret (.bool b)) h')
def ZA3.mk'{l:Nat}{args:U N}{fr fr1:Fr}{ps:V4 Tmp}{YH bd:Code}{df:Nat}{R:H->Prop}(lo:Nat)(hat:h.at l=.loop .ready none fr n ps YH bd df)(hw:wm<=l)(hl:Nat.beq args.length ps.toList.length=true)(hs:Qs (ps.toList.zip args) n fr=some fr1)
 (k:WC X n wm (some l) YH ⟨fr1,[],h,none⟩ (AsK X n wm lo l fr ps YH bd df R)):ZA3 X l args.toArray wm h (fun b h'=>b=true/\R h'):=by
 obtain⟨e1,s1,⟨rfl,h1,k1⟩,j1⟩:=k;have o1:(s1.h.at l).own=true:=by rw[h1];rfl
 have s1l:=Qf h1 rfl;obtain⟨e2,s2,⟨rfl,h2,k2⟩,j2⟩:=k1 (s1.h.put l (.loop .busy none fr n ps YH bd df)) (fun hl=>Up.put hl o1) (YU s1l _);have o2:(s2.h.at l).own=true:=by rw[h2];rfl
 refine⟨true,s2.h.put l (.loop .ready none fr n ps YH bd df),⟨rfl,k2 _ (fun hl=>Up.put hl o2) (YU (Qf h2 rfl) _)⟩,?_⟩
 classical
 let ih:Qr->O YL:=fun j=>if j=.code YH n wm (some l) ⟨fr1,[],h,none⟩ then some (.code .normal s1) else JD (.code bd n wm (some l) {s1 with h:=s1.h.put l (.loop .busy none fr n ps YH bd df)}) (.code .normal s2) j
 have HI:∀j r,ih j=some r->Yn X j r:=by
  intro j r e;dsimp only[ih]at e;split at e
  ·rename_i hj;cases e;rw[hj];exact j1
  ·exact Xh (X:=X) j2 j r e
 refine Zap (C:=cfg X fun _=>false) (ih:=ih) HI ?_;unfold Zdg;rw[hat];have hl':Nat.beq args.toArray.toList.length ps.toList.length=true:=hl;dsimp only;rw[Nm0 hw,hl'];simp only[Bool.and_self,Cq1];have hs':Qs (ps.toList.zip args.toArray.toList) n fr=some fr1:=hs;rw[hs'];dsimp only;have i1:ih (.code YH n wm (some l) {fr:=fr1,ds:=[],h:=h})=some (.code .normal s1):=by dsimp only[ih];rw[if_pos rfl]
 rw[i1];show KR ih l bd n wm .normal s1=_;unfold KR;dsimp only;rw[h1];dsimp only
 have i2:ih (.code bd n wm (some l) {s1 with h:=s1.h.put l (.loop .busy none fr n ps YH bd df)})=some (.code .normal s2):=by
  dsimp only[ih];split
  ·rename_i hj;exfalso;injection hj with _ _ _ _ hs
   have:({s1 with h:=s1.h.put l (.loop .busy none fr n ps YH bd df)}:Fs).h.at l=h.at l:=by rw[hs]
   dsimp only at this;rw[YU s1l,hat]at this;cases this
  ·exact Xi _ _
 rw[i2];show JJ l .normal s2=_;unfold JJ;rw[h2]
section
variable{ops:V4 Oper}{ol:U Oper}{d:Nat}{ty:J}{p:String}{af:V4 Edge}{g:O (Nat×Z)}{rd:O Nat}
def WO.round{l:Nat}{args:V4 N}{E:Eff}{v:N}{h1 h2:H}{op:Op}(hg:ZY ops ⟨some d,op,ty,p,af,g⟩ fr)(hd:Nat.blt d n=true)(ha:Xt X h (YG fr) ⟨some d,op,ty,p,af,g⟩=some (.round l args,E))(hE:E.apply wm h=some h1)
 (hc:Yn X (.round l args wm h1) (.fin (.ret v) h2)) (k:WO X n wm rd ops ol ⟨Tr.set fr d v,ds,h2,none⟩ Q):WO X n wm rd ops (⟨some d,op,ty,p,af,g⟩::ol) ⟨fr,ds,h,none⟩ Q:=by
 have hd':Zj7 n (some d)=true:=hd;refine WO.cons (Xh hc) (s1:=⟨Tr.set fr d v,ds,h2,none⟩) ?_ k;unfold JX;rw[hg.1,hg.2];dsimp only[KK,Cq0,Cq1];rw[ha];dsimp only[KK,Cq0,Cq1];rw[hE];unfold Kh;dsimp only[Js,Cq0];rw[Xi];dsimp only;rw[ZfB hd']
 rfl
def WO.yld{l:Nat}{fo:GZ}{xs:V4 GZ}{ts:V4 J}{vs:U N}{R:Z->H->Prop}{st:LoopState}{pd:O Code}{fr':Fr}{n':Nat}{ps:V4 Tmp}{YH bd:Code}{df:Nat}
 (hg:ZY ops ⟨some d,.call {callee:=.value fo,args:=xs,argTypes:=ts},ty,p,af,g⟩ fr) (hd:Nat.blt d n=true) (hf:YG fr fo=some (.func (.yield l) #[] #[])) (hx:evs (YG fr) xs.toList=some vs)
 (hat:h.at l=.loop st pd fr' n' ps YH bd df) (hl:vs.length=ps.toList.length) (hr:ZA3 X l vs.toArray wm h R) (k:∀b h',R b h'->WO X n wm rd ops ol ⟨Tr.set fr d (.bool b),ds,h',none⟩ Q):
 WO X n wm rd ops (⟨some d,.call {callee:=.value fo,args:=xs,argTypes:=ts},ty,p,af,g⟩::ol) ⟨fr,ds,h,none⟩ Q:=by
 obtain⟨b,h',hR,hj⟩:=hr;refine WO.round (E:=.none) hg hd ?_ rfl hj (k b h' hR);rw[Zdl,hx];dsimp only;rw[hf];dsimp only;unfold U5;dsimp only;rw[hat];dsimp only;rw[hl,Nat.beq_refl];rfl
def WO.Zr6{o:Oper}{c:Z}(_:Zn ops o fr c)(h1:c=true->WO X n wm rd ops (o::ol) ⟨fr,ds,h,none⟩ Q)(h2:c=false->WO X n wm rd ops (o::ol) ⟨fr,ds,h,none⟩ Q):WO X n wm rd ops (o::ol) ⟨fr,ds,h,none⟩ Q:=by
 cases c
 ·exact h2 rfl
 ·exact h1 rfl
def Zn.on{o:Oper}{c:Z}(hg:Zn ops o fr c)(hc:c=true):ZY ops o fr:=⟨hg.1,hg.2.trans hc⟩
def Zn.off{o:Oper}{c:Z}(hg:Zn ops o fr c)(hc:c=false):ZfJ ops o fr:=⟨hg.1,hg.2.trans hc⟩
end
structure Z0(X:Ctx)(fn:Func)(wm:Nat)(Q:UW->H->Prop)(e:XX)(s:Fs):Prop where
 out:∃pm E h',xPM e=some pm/\Q E h'/\Yn X (.leave fn wm pm s) (.fin E h')
def WF.ZIr{f:V2}{fn:Func}{c:Code}{args:V4 N}{Q:UW->H->Prop}(hf:X.fns.get f=some fn)(hb:fn.body=some c)(hn:args.toList.length<=fn.ntmps)
 (k:WC X fn.ntmps wm none c {fr:=X7 args.toList 0 .nil,ds:=[],h:=h} (Z0 X fn wm Q)):WF X f args wm h Q:=by
 obtain⟨e,s',⟨pm,E,h',hpm,hq,hj⟩,ka⟩:=k;refine⟨E,h',hq,?_⟩;intro ρ args' w Zy hr hv
 have hi:Inv ρ fn.ntmps {fr:=X7 args.toList 0 .nil,ds:=[],h:=h} {tmps:=args'++Array.replicate (fn.ntmps-args'.size) undef,defers:=[]} w:=
  ⟨hr,Wn hv hn,.nil⟩
 refine callsIn_of_wp_marks (X.ok f fn hf).1 hb (Zgd hf) (wpIn_mono (ka ρ _ w base Zy hi rfl) ?_);rintro e' a' w' ⟨ρ',he,hi',hst⟩;cases he with
 | normal=>cases hpm;exact hj ρ' _ a' .returning w' _ (KB Zy hst.size) hi' .ret (fun _ _ hp=>UQ.trans hr.lt hst hp)
 | ret=>cases hpm;exact hj ρ' _ a' .returning w' _ (KB Zy hst.size) hi' .ret (fun _ _ hp=>UQ.trans hr.lt hst hp)
 | panic hv'=>cases hpm;exact hj ρ' _ a' _ w' _ (KB Zy hst.size) hi' (.Z9 hv') (fun _ _ hp=>UQ.trans hr.lt hst hp)
 | exit id=>cases hpm
 | goto l=>cases hpm
def WF.QC{f:V2}{fn:Func}{c:Code}{args:U N}{n:Nat}{R:UW->H->Prop}(hf:X.fns.get f=some fn)(hb:fn.body=some c)(hnt:fn.ntmps=n)(hn:args.length<=n)
 (k:WC X n wm none c ⟨X7 args 0 .nil,[],h,none⟩ (Z0 X fn wm R)):WF X f args.toArray wm h R:=by
 subst hnt;exact WF.ZIr hf hb hn k
def Zvc{fn:Func}{v:N}{wr:O Nat}(hv:QH X.P fn fr h=some v):Yn X (.leave fn wm .ret ⟨fr,[],h,wr⟩) (.fin (.ret v) h):=by
 refine Jf (C:=cfg X fun _=>false) (ih:=fun _=>none) (fun _ _ h=>by cases h) ?_;have hv':QH (cfg X fun _=>false).X.P fn fr h=some v:=hv;unfold Uj;simp only[hv']
def ZlC{fn:Func}{pm:PM}{r:Nat}{wr:O Nat}{E:UW}{h':H}(hat:h.at r=.deferred)(hw:wm<=r)(hj:Yn X (.leave fn wm pm ⟨fr,ds,h.put r .dead,wr⟩) (.fin E h')):Yn X (.leave fn wm pm ⟨fr,⟨.collected r,#[]⟩::ds,h,wr⟩) (.fin E h'):=by
 refine Jf (C:=cfg X fun _=>false) (ih:=JD (.leave fn wm pm ⟨fr,ds,h.put r .dead,wr⟩) (.fin E h')) (Xh hj) ?_;unfold Uj;dsimp only;rw[hat];dsimp only;rw[Nm0 hw,Cq1];exact Xi _ _
def Z0.gen{fn:Func}{R:N->H->Prop}{rs:U ResultVar}{vs:U N}{v:N}(hr:fn.results.toList=rs)(hv:Zcw X.P fr h rs=some vs)(hl:(match vs with | [v]=>v|vs=>.tuple vs.toArray)=v)(k:R v h):Z0 X fn wm (fun e h'=>∃v,e=.ret v/\R v h') .ret ⟨fr,[],h,none⟩:=by
 refine⟨⟨.ret,.ret v,h,rfl,⟨v,rfl,k⟩,Zvc ?_⟩⟩;unfold QH;rw[hr,hv,<-hl]
 match vs with
 | []=>rfl
 | [_]=>rfl
 | _::_::_=>rfl
def Z0.col{fn:Func}{R:UW->H->Prop}{r:Nat}(lo:Nat)(hlo:lo<=r)(hat:h.at r=.deferred)(hw:wm<=r)(k:∀h',Up lo (fun i=>i=r) h h'->Z0 X fn wm R .ret ⟨fr,ds,h',none⟩):Z0 X fn wm R .ret ⟨fr,⟨.collected r,#[]⟩::ds,h,none⟩:=by
 have hu:Up lo (fun i=>i=r) h (h.put r .dead):=Up.put hlo (by rw[hat];rfl);obtain⟨pm,E,h',hpm,hq,hj⟩:=(k _ hu).out;cases hpm;exact⟨⟨.ret,E,h',rfl,hq,ZlC hat hw hj⟩⟩
def Z0.Yc{fn:Func}{R:UW->H->Prop}{s:Fs}(k:Z0 X fn wm R .ret s):Z0 X fn wm R .normal s:=by
 obtain⟨pm,E,h',hpm,hq⟩:=k.out;cases hpm;exact⟨⟨.ret,E,h',rfl,hq⟩⟩
section
variable{ops:V4 Oper}{ol:U Oper}{d:Nat}{ty:J}{p:String}{af:V4 Edge}{g:O (Nat×Z)}{rd:O Nat}{mm:Nat}{sf:SfT}{QQ:Fr->H->Prop}{κ ν:Type}[DecidableEq κ]{kt vt:J}{kv:κ->N}{vv:ν->N}{m:O Nat}{l:U (κ×ν)}
end
def WO.ZmN{ops:V4 Oper}{ol:U Oper}{d:Nat}{op:Op}{ty:J}{p:String}{af:V4 Edge}{g:O (Nat×Z)}{rd:O Nat}{c:Z}(hg:Zn ops ⟨some d,op,ty,p,af,g⟩ fr c)(hc:c=false)(hd:Nat.blt d n=true)(k:WO X n wm rd ops ol ⟨Tr.set fr d undef,ds,h,none⟩ Q):
 WO X n wm rd ops (⟨some d,op,ty,p,af,g⟩::ol) ⟨fr,ds,h,none⟩ Q:=WO.o (hg.off hc) hd k
def WZ{ev:GZ->O N}{d:O Tmp}{ty:J}{p:String}{af:V4 Edge}{g:O (Nat×Z)}{f:V2}{xs:V4 GZ}{vs:U N}(hx:evs ev xs.toList=some vs):Xt X h ev ⟨d,.makeFunc (.func f) #[] xs,ty,p,af,g⟩=some (.val (.func (.func f) #[] vs.toArray),.none):=by
 show(bif Zm1 (.func f) then none else match evs ev [],evs ev xs.toList with|some vs,some us=>some (AN.val (.func (.func f) vs.toArray us.toArray),Eff.none) | _,_=>none)=_;rw[hx];rfl
section
variable{ops:V4 Oper}{ol:U Oper}{d:Nat}{ty:J}{p:String}{af:V4 Edge}{g:O (Nat×Z)}{rd:O Nat}{mm:Nat}{sf:SfT}{QQ:Fr->H->Prop}{κ ν:Type}[DecidableEq κ]{kt vt:J}{kv:κ->N}{vv:ν->N}{m:O Nat}{l:U (κ×ν)}
end
end
section
def Zrq{h:H}{i:Nat}(e:(h.at i).own=true):i<h.size:=by
 rcases Gp i h.size with z|z
 ·exact z
 ·rw[H.ZaP z]at e;cases e
structure Ast(wm:Nat) where
 P:H->Prop
 fp:Nat->Prop
 loc:∀{h h':H},Fz wm h h'->(∀i,fp i->h'.at i=h.at i)->P h->P h'
 own:∀{h:H}{i:Nat},P h->fp i->wm<=i/\(h.at i).own=true
def Dj{wm:Nat}(A B:Ast wm):Prop:=∀i,A.fp i->B.fp i->False
def Dj.symm{wm:Nat}{A B:Ast wm}(h:Dj A B):Dj B A:=fun i a b=>h i b a
structure Yp{wm:Nat}(G:List (Ast wm))(h:H):Prop where
 all:∀A∈G,A.P h
 dis:G.Pairwise Dj
def QF{wm:Nat}(G:U (Ast wm))(i:Nat):Prop:=∃A∈G,A.fp i
structure Sp(wm:Nat)(T:Nat->Prop)(h0:H)(G:List (Ast wm))(h:H):Prop where
 wl:wm<=h0.size
 fz:Fz wm h0 h
 keep:∀i,i<h0.size->¬ T i->h.at i=h0.at i
 hold:Yp G h
 inn:∀i,QF G i->T i\/h0.size<=i
inductive Pk{α:Type}:List α->α->List α->Prop
 | z {A:α} {G:List α}:Pk (A::G) A G
 | s {A B:α} {G G':List α}:Pk G A G'->Pk (B::G) A (B::G')
def Pk.perm{α:Type}{G G':U α}{A:α}(p:Pk G A G'):G.Perm (A::G'):=by
 induction p with
 | z=>exact List.Perm.refl _
 | s _ ih=>exact(List.Perm.cons _ ih).trans (List.Perm.swap _ _ _)
def Pk.mem{α:Type}{G G':U α}{A:α}(p:Pk G A G'):A∈G:=p.perm.mem_iff.2 (by simp)
inductive Sel{α:Type}:List α->List α->List α->Prop
 | n {G:List α}:Sel G [] G
 | c {A:α} {G G1 Ga Gr:List α}:Pk G A G1->Sel G1 Ga Gr->Sel G (A::Ga) Gr
def Sel.perm{α:Type}{G Ga Gr:U α}(p:Sel G Ga Gr):G.Perm (Ga++Gr):=by
 induction p with
 | n=>exact List.Perm.refl _
 | c p _ ih=>exact p.perm.trans (List.Perm.cons _ ih)
section
variable{wm:Nat}{G Ga Gb Gr:U (Ast wm)}{h h' h0:H}{T t:Nat->Prop}{A B:Ast wm}
def Yp.perm(p:G.Perm Ga)(s:Yp G h):Yp Ga h:=⟨fun A m=>s.all A (p.mem_iff.2 m),(p.pairwise_iff (fun h=>Dj.symm h)).1 s.dis⟩
def Yp.left(s:Yp (Ga++Gr) h):Yp Ga h:=⟨fun A m=>s.all A (Q1.2 (.inl m)),(List.pairwise_append.1 s.dis).1⟩
def Yp.right(s:Yp (Ga++Gr) h):Yp Gr h:=⟨fun A m=>s.all A (Q1.2 (.inr m)),(List.pairwise_append.1 s.dis).2.1⟩
def Yp.nil:Yp ([]:U (Ast wm)) h:=⟨fun _ m=>by simp at m,.nil⟩
def Yp.one(a:A.P h):Yp [A] h:=⟨fun _ m=>by rw[G7.1 m];exact a,List.pairwise_singleton _ _⟩
def QF.perm(p:G.Perm Ga){i:Nat}(s:QF G i):QF Ga i:=let⟨A,m,f⟩:=s;⟨A,p.mem_iff.1 m,f⟩
def Yp.own(s:Yp G h){i:Nat}(f:QF G i):wm<=i/\(h.at i).own=true:=let⟨A,m,f⟩:=f;A.own (s.all A m) f
def Sp.perm(p:G.Perm Ga)(s:Sp wm T h0 G h):Sp wm T h0 Ga h:=⟨s.wl,s.fz,s.keep,s.hold.perm p,fun i f=>s.inn i (f.perm p.symm)⟩
def Sp.size(s:Sp wm T h0 G h):h0.size<=h.size:=s.fz.size
def Sp.hw(s:Sp wm T h0 G h):wm<=h.size:=KB s.wl s.fz.size
def Sp.Vg{g:H}(s:Sp wm T h0 G h)(e:g.size=h.size):wm<=g.size:=by rw[e];exact s.hw
def Sp.start(hw:wm<=h.size)(s:Yp G h):Sp wm (QF G) h G h:=⟨hw,Fz.refl _ _,fun _ _ _=>rfl,s,fun _ f=>.inl f⟩
def Sp.step(s:Sp wm T h0 (Ga++Gr) h)(u:Up wm t h h')(ht:∀i,t i->QF Ga i)(hb:Yp Gb h')(hf:∀i,QF Gb i->QF Ga i\/h.size<=i):Sp wm T h0 (Gb++Gr) h':=by
 have hd:=(List.pairwise_append.1 s.hold.dis).2.2;have hsep:∀i,QF Ga i->QF Gr i->False:=fun i ⟨A,m,f⟩ ⟨B,m',f'⟩=>hd A m B m' i f f'
 have hr:=s.hold.right;refine⟨s.wl,s.fz.trans (u.fz Vb),fun i hi hn=>?_,⟨fun A m=>?_,?_⟩,fun i f=>?_⟩
 ·have hnt:¬ t i:=fun q=>by
   rcases s.inn i (by obtain⟨A,m,f⟩:=ht i q;exact⟨A,Q1.2 (.inl m),f⟩) with z|z
   ·exact hn z
   ·omega
  rw[u.keep i (Jx hi s.size) hnt,s.keep i hi hn]
 ·rcases Q1.1 m with m|m
  ·exact hb.all A m
  ·exact A.loc (u.fz Vb) (fun i f=>u.keep i (Zrq (A.own (hr.all A m) f).2) (fun q=>hsep i (ht i q) ⟨A,m,f⟩)) (hr.all A m)
 ·refine List.pairwise_append.2 ⟨hb.dis,hr.dis,fun B m A m' i f f'=>?_⟩;rcases hf i ⟨B,m,f⟩ with z|z
  ·exact hsep i z ⟨A,m',f'⟩
  ·exact absurd (Zrq (A.own (hr.all A m') f').2) (Nat.not_lt_of_le z)
 ·obtain⟨A,m,f⟩:=f;rcases Q1.1 m with m|m
  ·rcases hf i ⟨A,m,f⟩ with⟨B,m',f'⟩|z
   ·exact s.inn i ⟨B,Q1.2 (.inl m'),f'⟩
   ·exact .inr (KB s.size z)
  ·exact s.inn i ⟨A,Q1.2 (.inr m),f⟩
def Sp.new(s:Sp wm T h0 Gr h)(u:Up wm (fun _=>False) h h')(hb:B.P h')(hf:∀i,B.fp i->h.size<=i):Sp wm T h0 (B::Gr) h':=
 Sp.step (Ga:=[]) (Gb:=[B]) s u (fun _ z=>z.elim) (Yp.one hb) fun i ⟨A,m,f⟩=>by rw[G7.1 m]at f;exact .inr (hf i f)
def Sp.up(s:Sp wm T h0 Gr h)(u:Up wm (fun _=>False) h h'):Sp wm T h0 Gr h':=
 Sp.step (Ga:=[]) (Gb:=[]) s u (fun _ z=>z.elim) Yp.nil fun i ⟨A,m,f⟩=>by simp at m
def Sp.one(p:Pk G A Gr)(s:Sp wm T h0 G h)(u:Up wm t h h')(ht:∀i,t i->A.fp i)(hb:B.P h')(hf:∀i,B.fp i->A.fp i\/h.size<=i):Sp wm T h0 (B::Gr) h':=
 Sp.step (Ga:=[A]) (Gb:=[B]) (s.perm p.perm) u (fun i q=>⟨A,by simp,ht i q⟩) (Yp.one hb) fun i ⟨C,m,f⟩=>by
   rw[G7.1 m]at f;exact(hf i f).imp (fun z=>⟨A,by simp,z⟩) id
def Sp.get(s:Sp wm T h0 G h)(p:Pk G A Gr):A.P h:=s.hold.all A p.mem
def Sp.only(p:Sel G Ga Gr)(s:Sp wm T h0 G h):Sp wm T h0 Ga h:=by
 have s:=s.perm p.perm;exact⟨s.wl,s.fz,s.keep,s.hold.left,fun i ⟨B,m,f⟩=>s.inn i ⟨B,by simp[m],f⟩⟩
def Sp.add(s:Sp wm T h0 G h)(ha:A.P h)(hf:∀i,¬ A.fp i):Sp wm T h0 (A::G) h:=
 ⟨s.wl,s.fz,s.keep,⟨fun B m=>by rcases Kx.1 m with m|m;· rw[m];exact ha
                                ·exact s.hold.all B m,GW.2 ⟨fun B _ i f _=>hf i f,s.hold.dis⟩⟩,fun i ⟨B,m,f⟩=>by
   rcases Kx.1 m with m|m
   ·rw[m]at f;exact absurd f (hf i)
   ·exact s.inn i ⟨B,m,f⟩⟩
def Sp.say(s:Sp wm T h0 (Ga++Gr) h)(hb:Yp Gb h)(hf:∀i,QF Gb i->QF Ga i):Sp wm T h0 (Gb++Gr) h:=
 Sp.step (t:=fun _=>False) s ⟨K1 _,fun _ _ _=>rfl,fun _ z=>z.elim⟩ (fun _ z=>z.elim) hb fun i f=>.inl (hf i f)
def Sp.call(p:Sel G Ga Gr)(s:Sp wm T h0 G h)(c:Sp wm (QF Ga) h Gb h'):Sp wm T h0 (Gb++Gr) h':=by
 have s:=s.perm p.perm;exact Sp.step s ⟨c.size,c.keep,fun i f=>s.hold.left.own f⟩ (fun _ q=>q) c.hold c.inn
def Sp.Zbc(p:Sel G Ga Gr)(s:Sp wm T h0 G h):Yp Ga h:=(s.hold.perm p.perm).left
end
def bx(wm b:Nat)(cs:U N):Ast wm where
 P:=fun h=>h.at b=.row cs true 0/\wm<=b
 fp:=fun i=>i=b
 loc:=fun _ k ⟨h1,h2⟩=>⟨by rw[k b rfl,h1],h2⟩
 own:=fun⟨h1,h2⟩ e=>by subst e;exact⟨h2,by rw[h1];rfl⟩
def ow{α:Type}(wm:Nat)(e:JY α)(a:O Addr)(n c:Nat)(xs:U α):Ast wm where
 P:=fun h=>n=xs.length/\UR e wm wm h a c xs
 fp:=Uf a
 loc:=fun f k ⟨h1,s⟩=>⟨h1,s.max,s.mem.imp id fun⟨i,o,cs,q1,q2,q3,q4,q5,q6⟩=>⟨i,o,cs,q1,q2,by rw[k i ⟨o,q1⟩,q3],q4,q5,q6.mono f⟩⟩
 own:=fun⟨_,s⟩ ⟨o,e⟩=>by
  rcases s.mem with⟨h1,_⟩|⟨i,o',cs,q1,q2,q3,_⟩
  ·rw[h1]at e;cases e
  ·rw[q1]at e;cases e;exact⟨q2,by rw[q3];rfl⟩
def mp{κ ν:Type}(wm:Nat)(kv:κ->N)(vv:ν->N)(m:O Nat)(l:U (κ×ν)):Ast wm where
 P:=fun h=>Zle kv vv wm h m l
 fp:=fun i=>m=some i
 loc:=fun _ k s=>⟨s.at_.keep k,s.low⟩
 own:=fun{h i} s e=>⟨s.low i e,by
  rcases s.at_.mem with⟨q,_⟩|⟨j,bs,Qe,q,h1,_⟩
  ·rw[q]at e;cases e
  ·rw[q]at e;cases e;rw[h1];rfl⟩
def Yi{α:Type}(wm:Nat)(r:JY α)(p:r.Par)(x:α):Ast wm where
 P:=fun h=>r.F wm h p x
 fp:=fun _=>False
 loc:=fun f _ s=>r.mono f s
 own:=fun _ z=>z.elim
def ob(wm b:Nat)(A:YS):Ast wm where
 P:=fun h=>h.at b=A/\wm<=b/\A.own=true
 fp:=fun i=>i=b
 loc:=fun _ k ⟨h1,h2⟩=>⟨by rw[k b rfl,h1],h2⟩
 own:=fun⟨h1,h2,h3⟩ e=>by subst e;exact⟨h2,by rw[h1];exact h3⟩
section
variable{wm:Nat}{G Gr:U (Ast wm)}{h h0:H}{T:Nat->Prop}
def Sp.Jp{b:Nat}{cs:U N}(s:Sp wm T h0 G h)(p:Pk G (bx wm b cs) Gr):At h b 0 cs:=At.box (s.get p).1
def Sp.U8{α:Type}{e:JY α}{a:O Addr}{n c:Nat}{xs:U α}(s:Sp wm T h0 G h)(p:Pk G (ow wm e a n c xs) Gr):Src e wm h a c xs:=(s.get p).2.src
def Sp.ord{α:Type}{e:JY α}{a:O Addr}{n c:Nat}{xs:U α}(s:Sp wm T h0 G h)(p:Pk G (ow wm e a n c xs) Gr):Sl e h.size h a c xs:=(s.U8 p).sl s.hw
def Sp.on{α:Type}{e:JY α}{a:O Addr}{n c:Nat}{xs:U α}(s:Sp wm T h0 G h)(p:Pk G (ow wm e a n c xs) Gr):n=xs.length:=(s.get p).1
def Sp.mrd{κ ν:Type}{kv:κ->N}{vv:ν->N}{m:O Nat}{l:U (κ×ν)}(s:Sp wm T h0 G h)(p:Pk G (mp wm kv vv m l) Gr):Zld kv vv h.size h m l:=MapAt.all (s.get p).at_
def Sp.sl{α:Type}{e:JY α}{a:O Addr}{c:Nat}{xs:U α}(s:Sp wm T h0 G h)(f:Sl e wm h0 a c xs):Sl e wm h a c xs:=f.mono s.fz
def Sp.slu{α:Type}{e:JY α}{a:O Addr}{c:Nat}{xs:U α}(s:Sp wm T h0 G h)(f:Sl e wm h0 a c xs):Sl e h.size h a c xs:=(f.mono s.fz).up s.hw
end
end
section
variable{X:Ctx}{n wm:Nat}{rd:O Nat}{ops:V4 Oper}{l:U Oper}{fr:Fr}{ds:U V6}{h h1 h2:H}{ty:J}{p:String}{af:V4 Edge}{g:O (Nat×Z)}{m:Nat}
def VV(h h2:H)(xs:U Nat)(x:Nat):Prop:=(x<h.size/\x∈xs)\/h2.size<=x
structure ST where
 s:List (Nat×(Nat->Prop))
 m:List (Nat×(Nat->Prop))
 p:List (Nat×Nat×Nat×(YS->Prop))
def ST.nil:ST:=⟨[],[],[]⟩
structure ZNZ(X:Ctx)(n wm:Nat)(rd:Option Nat)(ops:Array Oper)(o:Oper)(T:Nat->Prop)(xs:List Nat)(h:H)(fr:Fr)(v:Value)(h2:H):Prop where
 run:wm<=h.size->∃h1,h2=Qa xs h h1/\Qn X.P wm rd ops o T fr (mask xs h) v h1/\Ue T (mask xs h) h1
 wmT:∀x,T x->wm<=x
 dst:∀d,o.dst=some d->d<n
 hl:ZT o=true->(∀x,¬ T x)/\h2=h/\∀g,Qn X.P wm rd ops o (fun _=>False) fr g v g
 mx:∀x,T x->x<h.size->x∉xs
abbrev Cmp(ops:V4 Oper)(i j:Nat):Prop:=comp (XI ops.toList 0 []) i j=true
abbrev PsT:=O (Nat×Nat×(YS->Prop))
structure WE(X:Ctx)(n wm:Nat)(rd:Option Nat)(ops:Array Oper)(sf:ST)(m:Nat)(h:H)(l:List Oper)(fr:Fr)(Q:Fr->H->Prop):Prop where
 out:∃(hs:Nat->H) (fs:Nat->Fr) (vs:Nat->Value) (Ts:Nat->Nat->Prop) (xs:Nat->List Nat) (ps:Nat->PsT),hs 0=h/\fs 0=fr/\Q (fs l.length) (hs l.length)/\∀k o,l[k]? =some o ->
  ZNZ X n wm rd ops o (Ts k) (xs k) (hs k) (fs k) (vs k) (hs (k+1))/\fs (k+1)=Ji (fs k) o.dst (vs k)/\
  (∀x,Ts k x->x<(hs k).size->∀i o',i<m+k->ops.toList[i]? =some o'->Cmp ops i (m+k)\/ZT o'=true\/(∃V,(i,V)∈sf.s/\V x)\/(∃C,(i,x,m+k,C)∈sf.p/\C ((hs (k+1)).at x))\/
    ∃i',i=m+i'/\i'<k/\(VV (hs i') (hs (i'+1)) (xs i') x\/∃C,ps i'=some (x,m+k,C)/\C ((hs (k+1)).at x)))/\
  (ZT o=false->(∀q∈sf.m,Cmp ops q.1 (m+k)\/∀x,q.2 x->VV (hs k) (hs (k+1)) (xs k) x)/\∀i',i'<k->Cmp ops (m+i') (m+k)\/∀x,Ts i' x->x<(hs i').size->VV (hs k) (hs (k+1)) (xs k) x)/\
  (∀x j C,ps k=some (x,j,C)->xs k=[]/\(∀y,¬ Ts k y)/\hs (k+1)=hs k/\Prm X.P wm rd ops o (fs k) (hs k) (vs k) x C)
variable{sf:ST}{Q:Fr->H->Prop}
def WE.nil(k:Q fr h):WE X n wm rd ops sf m h [] fr Q:=⟨fun _=>h,fun _=>fr,fun _=>undef,fun _ _=>False,fun _=>[],fun _=>none,rfl,rfl,k,fun k o e=>by simp at e⟩
def WE.cons{o:Oper}{v:N}{T:Nat->Prop}{xs0:U Nat}(so to:U (Nat×(Nat->Prop)))(p0:PsT)(h1:ZNZ X n wm rd ops o T xs0 h fr v h2)
 (hso:∀q∈so,q.1=m/\∀x,q.2 x->VV h h2 xs0 x) (hto:∀x,T x->x<h.size->∃q∈to,q.1=m/\q.2 x)
 (c1:∀x,T x->x<h.size->∀i o',i<m->ops.toList[i]? =some o'->Cmp ops i m\/ZT o'=true\/(∃V,(i,V)∈sf.s/\V x)\/∃C,(i,x,m,C)∈sf.p/\C (h2.at x))
 (c2:ZT o=false->∀q∈sf.m,Cmp ops q.1 m\/∀x,q.2 x->VV h h2 xs0 x)
 (hp:∀x j C,p0=some (x,j,C)->xs0=[]/\(∀y,¬ T y)/\h2=h/\Prm X.P wm rd ops o fr h v x C)
 (k:WE X n wm rd ops ⟨so++sf.s,to++sf.m,(p0.map fun q=>(m,q.1,q.2.1,q.2.2)).toList++sf.p⟩ (m+1) h2 l (Ji fr o.dst v) Q):WE X n wm rd ops sf m h (o::l) fr Q:=by
 obtain⟨gs,fs,vs,Ts,xs,ps,e0,e1,hq,hk⟩:=k;refine⟨fun k=>match k with|0=>h|k+1=>gs k,fun k=>match k with|0=>fr|k+1=>fs k,fun k=>match k with|0=>v|k+1=>vs k,fun k=>match k with|0=>T|k+1=>Ts k,fun k=>match k with|0=>xs0|k+1=>xs k,fun k=>match k with|0=>p0|k+1=>ps k,rfl,rfl,hq,fun k o' ho'=>?_⟩;cases k with
 | zero=>
   simp at ho';subst ho';dsimp only;rw[e0];refine⟨h1,e1,fun x tx hx i o' hi ho'=>?_,fun hh=>⟨c2 hh,fun i' hi'=>absurd hi' (Nat.not_lt_zero _)⟩,hp⟩;rcases c1 x tx hx i o' hi ho' with z|z|z|z
   ·exact .inl z
   ·exact .inr (.inl z)
   ·exact .inr (.inr (.inl z))
   ·exact .inr (.inr (.inr (.inl z)))
 | succ k=>
   obtain⟨k1,k2,k3,k4,k5⟩:=hk k o' (by simpa using ho');have e:m+1+k=m+(k+1):=Va
   rw[e]at k3 k4;dsimp only;refine⟨k1,k2,fun x tx hx i o' hi ho'=>?_,fun hh=>⟨fun q hq=>(k4 hh).1 q (Q1.2 (.inr hq)),fun i' hi'=>?_⟩,k5⟩
   ·rcases k3 x tx hx i o' hi ho' with z|z|⟨V,z1,z2⟩|⟨C,z1,z2⟩|⟨i',q1,q2,q3⟩
    ·exact .inl z
    ·exact .inr (.inl z)
    ·rcases Q1.1 z1 with z1|z1
     ·obtain⟨w1,w2⟩:=hso _ z1;dsimp only at w1 w2;subst w1;refine .inr (.inr (.inr (.inr ⟨0,rfl,Nat.succ_pos _,.inl ?_⟩)));dsimp only;rw[e0];exact w2 x z2
     ·exact .inr (.inr (.inl ⟨V,z1,z2⟩))
    ·rcases Q1.1 z1 with z1|z1
     ·cases p0 with
      | none=>simp at z1
      | some q=>
        simp at z1;obtain⟨w1,w2,w3,w4⟩:=z1;subst w1;exact .inr (.inr (.inr (.inr ⟨0,rfl,Nat.succ_pos _,.inr ⟨C,by show some q=_;rw[w2,w3,w4],z2⟩⟩)))
     ·exact .inr (.inr (.inr (.inl ⟨C,z1,z2⟩)))
    ·exact .inr (.inr (.inr (.inr ⟨i'+1,by omega,by omega,q3⟩)))
   ·cases i' with
    | zero=>
      dsimp only;by_cases hc:Cmp ops (m+0) (m+(k+1))
      ·exact .inl hc
      ·refine .inr fun x tx hx=>?_
       obtain⟨q,q1,q2,q3⟩:=hto x tx hx;rcases(k4 hh).1 q (Q1.2 (.inl q1)) with z|z
       ·rw[q2]at z;exact absurd z hc
       ·exact z x q3
    | succ i'=>
      have:=(k4 hh).2 i' Va;have e2:m+1+i'=m+(i'+1):=Va
      rw[e2]at this;exact this
def WC.ZNe(hm:X.P.follows .mixedOrders=true){id:Nat}{R:XX->Fs->Prop}(hp:(plan ops.toList).isSome=true)(k:WE X n wm rd ops ST.nil 0 h ops.toList fr (fun fr' h'=>R .normal ⟨fr',ds,h',none⟩)):WC X n wm rd (.region id ops true) ⟨fr,ds,h,none⟩ R:=by
 obtain⟨gs,fs,vs,ts,xs,ps,e0,e1,hq,hk⟩:=k;obtain⟨ZK,hp⟩:=GT.1 hp;refine⟨.normal,_,hq,fun ρ a w F Zy hi hF=>?_⟩;unfold plan Ztp at hp;cases hall:(QD Zar ops.toList 0&&QD (Zd1 ops.toList (XI ops.toList 0 [])) ops.toList 0&&QD (Zfu ops.toList) ops.toList 0)<;>rw[hall]at hp<;>simp only[Cq1,Cq0]at hp
 ·cases hp
 rw[Ba0,Ba0]at hall;obtain⟨⟨ZaK,Zca⟩,hdst⟩:=hall;have ZaK:=YD _ _ ZaK;have Zca:=YD _ _ Zca;have hdst:=YD _ _ hdst;have hget:∀{k:Nat}{o:Oper},ops[k]? =some o->ops.toList[k]? =some o:=fun h=>by rwa[G8]
 have hspec:=(ZbU ops.toList 0 [] rfl).2
 have hwk:∀k,k<=ops.size->wm<=(gs k).size:=by
  intro k
  induction k with
  | zero=>intro _;rw[e0];exact Zy
  | succ k ih=>
    intro hk';have hlt:k<ops.size:=Va
    have ho:ops.toList[k]? =some ops[k]:=by simp[hlt]
    obtain⟨h1,q1,_,q3⟩:=(hk k _ ho).1.run (ih Va);have q2:=q3.size;rw[Zo]at q2;have:=ih Va;rw[q1,YN];omega
 have hlt:∀{k:Nat}{o:Oper},ops[k]? =some o->k<ops.size:=fun h=>(J0.1 h).1
 have hco:∀{k:Nat}(hl:k<ops.size),ops.toList[k]? =some ops[k]:=fun hl=>by simp[hl]
 classical
 let sft:Nat->O (Nat×Nat):=fun i=>match ps i with
  | none=>none
  | some (x,j,C)=>if i<j/\j<ops.size/\ts j x/\C ((gs (j+1)).at x) then some (x,j) else none
 have Zw1:∀i x j,sft i=some (x,j)->∃C,ps i=some (x,j,C)/\i<j/\j<ops.size/\ts j x/\C ((gs (j+1)).at x):=by
  intro i x j e;dsimp only[sft]at e;cases hp:ps i with
  | none=>rw[hp]at e;cases e
  | some q=>
    obtain⟨y,j',C⟩:=q;rw[hp]at e;dsimp only at e;split at e
    ·rename_i hh;cases e;exact⟨C,rfl,hh⟩
    ·cases e
 let D:Data X.P n wm rd ops:= {
  hs:=gs,fs:=fs,vs:=vs,mo:=ts,Xs:=xs,soft:=sft,hl:=fun i=>hlAt ops.toList i,Pb:=fun j k=>bit ((XI ops.toList 0 []).getD j 0) k=true
  Zlk:=hwk 0 (Gi _)
  step:=fun k o ho=>by
   obtain⟨h1,q1,q2,q3⟩:=(hk k o (hget ho)).1.run (hwk _ (GI (hlt ho)));exact⟨h1,q2,q3,q1,(hk k o (hget ho)).2.1⟩
  wmM:=fun k x hkl hx=>(hk k _ (hco hkl)).1.wmT x hx
  dst:=fun k o d ho hd=>(hk k o (hget ho)).1.dst d hd
  ZcV:=fun j k hb=>by
   obtain⟨o,ho,e,he,hb,hk⟩:=hspec j k (Gi _) hb;exact⟨o,e,by rw[<-G8];simpa using ho,by simpa using he,hb,hk⟩
  Zl4:=fun j o e ho he hb=>by
   have:=ZaK j o (hget ho);unfold Zar at this;rw[Kd]at this;have:=this e (by simpa using he);rw[hb]at this
   simpa[G4]using this
  inc:=fun i j hil hjl hij h1 h2 hhl x hx hxs=>by
   have nc:¬ Cmp ops i j:=fun q=>by
    rcases Zad q with y|y
    ·exact h1 y
    ·exact h2 y
   have hh:ZT ops[i]=false:=by
    have:hlAt ops.toList i=false:=hhl;unfold hlAt at this;rw[hco hil]at this;exact this
   rcases Gp i j with hlt'|hge
   ·have:=(hk j _ (hco hjl)).2.2.1 x hx hxs i _ Va (hco hil);rw[G0]at this;rcases this with q|q|⟨V,q,_⟩|⟨C,q,_⟩|⟨i',q1,q2,q3⟩
    ·exact absurd q nc
    ·rw[hh]at q;cases q
    ·simp[ST.nil]at q
    ·simp[ST.nil]at q
    ·rw[G0]at q1;subst q1;rcases q3 with q3|⟨C,q3,q4⟩
     ·exact q3.imp (fun z=>⟨z.1,.inl z.2⟩) (fun z=>z)
     ·left;have hpr:=(hk i _ (hco hil)).2.2.2.2 x j C q3;refine⟨hpr.2.2.2.1,.inr ?_⟩;dsimp only[sft];rw[q3];dsimp only;rw[if_pos ⟨q2,hjl,hx,q4⟩]
   ·have:=((hk i _ (hco hil)).2.2.2.1 hh).2 j Va;rw[G0,G0]at this;rcases this with q|q
    ·exact absurd (by unfold Cmp;rw[ZAe hij];exact q) nc
    ·exact(q x hx hxs).imp (fun z=>⟨z.1,.inl z.2⟩) (fun z=>z)
  ZCP:=fun i o ho hh=>by
   have hq:ZT o=true:=by unfold hlAt at hh;rw[hget ho]at hh;exact hh
   obtain⟨z1,z2,z3⟩:=(hk i o (hget ho)).1.hl hq;exact⟨z1,by rw[z2],z3⟩
  Zmw:=fun i o x j ho hh=>by
   obtain⟨C,s1,s2,s3,s4,s5⟩:=Zw1 i x j hh;obtain⟨z0,z1,z2,z3,z4,z5,z6⟩:=(hk i o (hget ho)).2.2.2.2 x j C s1;obtain⟨w1,w2⟩:=z6 _ s5;exact⟨s2,s3,z3,z1,by rw[z2],z4,w1,by rw[z0];exact z5,by rw[z0];exact w2⟩
  MX:=fun i x hil hx hxs=>(hk i _ (hco hil)).1.mx x hx hxs
  looks:=fun i o t ho ht k o' ho' hd=>by
   have:=Zca i o (hget ho);unfold Zd1 at this;rw[Kd]at this;have:=YD _ _ (this t ht) k o' (hget ho');rw[K7.2 hd]at this;simp only[Cq1,Gt,G0]at this;rcases this with z|z
   ·exact .inl (Nb0 z)
   ·exact .inr (Zad z)
  Zz4:=fun i j o o' t ho ho' hd hd'=>by
   have:=hdst i o (hget ho);unfold Zfu at this;rw[hd]at this;have:=YD _ _ this j o' (hget ho');rw[K7.2 hd']at this;simp only[Cq1,G0]at this;exact(Nb0 this).symm}
 have hi2:Inv ρ n {fr:=D.fs 0,ds:=ds,h:=D.hs 0} a w:=⟨by show Rel ρ (gs 0) w;rw[e0];exact hi.rel,by show FrR ρ (fs 0) n a.tmps;rw[e1];exact hi.fr,hi.ds⟩
 have:=D.region hm hi2 hF id;have hlen:ops.toList.length=ops.size:=by simp
 rw[hlen];refine wpIn_mono this fun e' a' w' ⟨ρ',q1,q2,q3⟩=>⟨ρ',q1,⟨q2.rel,q2.fr,q2.ds⟩,?_⟩
 have e0':D.hs 0=h:=e0;rw[e0']at q3;exact q3
end
section
variable{X:Ctx}{n wm:Nat}{rd:O Nat}{ops:V4 Oper}{l:U Oper}{fr:Fr}{ds:U V6}{h h1 h2 h0:H}{ty:J}{p:String}{af:V4 Edge}{g:O (Nat×Z)}{m:Nat}
def ZbK{d:O Tmp}{op:Op}{v:N}{E:Eff}(hg:ZY ops ⟨d,op,ty,p,af,g⟩ fr)(ha:Xt X h (YG fr) ⟨d,op,ty,p,af,g⟩=some (.val v,E)\/Xt X h (YG fr) ⟨d,op,ty,p,af,g⟩=some (.skip,E)/\v=undef)(hE:E.apply wm h=some h1):
 Qn X.P wm rd ops ⟨d,op,ty,p,af,g⟩ (fun x=>E.tgt=some x) fr h v h1/\(wm<=h.size->Ue (fun x=>E.tgt=some x) h h1)/\(wm<=h.size->∀x,E.tgt=some x->wm<=x):=by
 have hds:Jm X (fun _=>true) (fun _=>none) ((d.getD 0)+1) wm none false ops.toList ⟨d,op,ty,p,af,g⟩ fr h=some (E.tgt,v,h1):=by
  unfold Jm;dsimp only;rw[hg.1,hg.2];cases d with
  | none=>
    rcases ha with ha|⟨ha,rfl⟩
    ·rw[ha];dsimp only[KK,Cq0,Cq1];rw[hE];rfl
    ·rw[ha];dsimp only[KK,Cq0,Cq1];rw[hE];rfl
  | some d'=>
    have:Nat.blt d' (d'+1)=true:=by rw[G4];omega
    have e2:(Nat.blt d' ((some d').getD 0+1)&&allowed none d')=true:=by dsimp only[Option.getD];rw[this];rfl
    dsimp only at e2 ⊢;rw[e2];rcases ha with ha|⟨ha,rfl⟩
    ·rw[ha];dsimp only[KK,Cq0,Cq1];rw[hE];rfl
    ·rw[ha];dsimp only[KK,Cq0,Cq1];rw[hE];rfl
 have e1:MOf false wm E.tgt=fun x=>E.tgt=some x:=ZN1 wm E.tgt
 refine⟨?_,fun hw=>?_,fun hw x hx=>?_⟩
 ·rw[<-e1];exact JK (K3 X) ZcX hds
 ·rw[<-e1];exact(Xn ZcX hds hw).1
 ·exact(Xn ZcX hds hw).2.1 x (by rw[e1];exact hx)
def Zl7{o:Oper}{f:V2}{args:V4 N}{UC:Nat}{v:N}(hg:ZY ops o fr)(ha:Xt X h (YG fr) o=some (.enter f args,.none))(hl:UC<=h.size)(hj:Yn X (.call f args UC h) (.fin (.ret v) h2)):
 Qn X.P wm rd ops o (fun x=>UC<=x/\(h.at x).own=true) fr h v h2:=by
 intro ρ a w F K Q r Zy hf hF hK;rw[Zcu ops o hf hg.1,hg.2,if_pos rfl];obtain⟨ev2,e1,e2⟩:=Zg3 ops o hf ha;obtain⟨ρ1,w1,p1,p2,p3⟩:=ZaQ r e1 e2;have hE:Eff.apply wm h .none=some h:=rfl;obtain⟨r1,st1⟩:=Eff.sound r Zy p1 hE p2;obtain⟨sm,km,Zx4⟩:=Eff.ZJ5 r Zy p1 hE p2;refine⟨fun f hab=>(KP hF f).2 (Zbp ha p3 hab),?_⟩
 have Zm6:o.semAt F.round a.eval=execOp a.eval o:=by
  cases hrd:rd with
  | none=>rw[hrd]at hF;unfold FR' at hF;subst hF;rfl
  | some l=>
    refine Oper.semAt_eq _ _ _ fun c hc=>?_
    obtain⟨d,h1⟩:=ZgD ha hc;simp at h1
 rw[Zm6];have ZCT:F.depth.isSome=true->1<=0:=fun hh=>by rw[Zaa hF]at hh;cases hh
 have hF1:=hF.mono st1.ext;generalize hrun:(execOp a.eval o).run X.P w=res at p3;obtain⟨args',hva,rfl⟩:=p3;refine⟨ZCT,(QT hF1 (hj ρ1 args' w1 hl r1 hva)).mono ?_⟩;rintro e' w' ⟨ρ',he,hr,hst⟩;cases he with
 | @ret _ v' hv=>
   have st2:Kw (fun x=>UC<=x/\(h.at x).own=true) ρ1 h w1 ρ' w':=hst.toM.Zlg (fun i _ h2 h3=>⟨h2,h3⟩) r1.lt;have toM:Kw (fun x=>UC<=x/\(h.at x).own=true) ρ h w ρ1 w1:=sm.weaken (fun i _ hi=>by cases hi) r.lt;exact hK ρ' v' w' hv hr (toM.trans r.lt Vb (fun _ _ z=>z) st2)
structure WX(X:Ctx)(n wm:Nat)(rd:Option Nat)(ops:Array Oper)(sf:ST)(m:Nat)(h:H)(l:List Oper)(fr:Fr)(Q:Fr->H->Prop):Prop where
 out:(∀q∈sf.m,∀x,q.2 x->x<h.size)->WE X n wm rd ops sf m h l fr Q
variable{sf:ST}{Q:Fr->H->Prop}
def WC.Ub(hm:X.P.follows .mixedOrders=true){id:Nat}{R:XX->Fs->Prop}(hp:(plan ops.toList).isSome=true)(k:WX X n wm rd ops ST.nil 0 h ops.toList fr (fun fr' h'=>R .normal ⟨fr',ds,h',none⟩)):WC X n wm rd (.region id ops true) ⟨fr,ds,h,none⟩ R:=
 WC.ZNe hm hp (k.out fun q hq=>by simp[ST.nil]at hq)
def WX.nil(k:Q fr h):WX X n wm rd ops sf m h [] fr Q:=⟨fun _=>WE.nil k⟩
def okM(ops:V4 Oper)(sf:ST)(m:Nat)(o:Oper):Z:=(sf.m.all fun q=>comp (XI ops.toList 0 []) q.1 m)||ZT o
def KL{o:Oper}(h:okM ops sf m o=true):ZT o=false->∀q∈sf.m,Cmp ops q.1 m:=fun hh q hq=>by
 unfold okM at h;rw[hh,Bool.or_false,Kd]at h;exact h q hq
def okB(ops:V4 Oper)(m:Nat)(is:U Nat):Z:=QD (fun i o=>Nat.ble m i||comp (XI ops.toList 0 []) i m||ZT o||is.any (Nat.beq i)) ops.toList 0
def ZoJ{is:U Nat}(h:okB ops m is=true){i:Nat}{o:Oper}(hi:i<m)(ho:ops.toList[i]? =some o):Cmp ops i m\/ZT o=true\/i∈is:=by
 have:=YD _ _ h i o ho;rw[G0,Gt,Gt,Gt]at this;rcases this with((q|q) | q) | q
 ·have:=Nl0 q;omega
 ·exact .inl q
 ·exact .inr (.inl q)
 ·rw[GO]at q;obtain⟨y,q1,q2⟩:=q;have e:=Nb0 q2;subst e;exact .inr (.inr q1)
def WO.w{Q:XX->Fs->Prop}{d:Nat}{op:Op}{v:N}(hg:ZY ops ⟨some d,op,ty,p,af,g⟩ fr)(hd:Nat.blt d n=true)(ha:Xt X h (YG fr) ⟨some d,op,ty,p,af,g⟩=some (.val v,.none))(k:WO X n wm rd ops l ⟨Tr.set fr d v,ds,h,none⟩ Q):
 WO X n wm rd ops (⟨some d,op,ty,p,af,g⟩::l) ⟨fr,ds,h,none⟩ Q:=WO.v hg hd ha rfl k
def Vc{Q:XX->Fs->Prop}{d:Nat}{op:Op}{v:Value}(ha:Xt X h (YG fr) ⟨some d,op,ty,p,af,none⟩=some (.val v,.none))(k:WO X n wm rd ops l ⟨Tr.set fr d v,ds,h,none⟩ Q)(hd:Nat.blt d n=true:=by exact rfl):WO X n wm rd ops (⟨some d,op,ty,p,af,none⟩::l) ⟨fr,ds,h,none⟩ Q:=WO.w gN hd ha k
def WX.w{d:Nat}{op:Op}{v:N}(hg:ZY ops ⟨some d,op,ty,p,af,g⟩ fr)(hd:Nat.blt d n=true)(ha:Xt X h (YG fr) ⟨some d,op,ty,p,af,g⟩=some (.val v,.none))(k:WX X n wm rd ops sf (m+1) h l (Tr.set fr d v) Q)(hM:okM ops sf m ⟨some d,op,ty,p,af,g⟩=true):
 WX X n wm rd ops sf m h (⟨some d,op,ty,p,af,g⟩::l) fr Q:=by
 refine⟨fun hb=>WE.cons (T:=fun _=>False) (xs0:=[]) (v:=v) [] [] none ?_ (fun _ z=>by simp at z) (fun _ z=>z.elim) (fun _ z=>z.elim) (fun hh q hq=>.inl (KL hM hh q hq)) (fun x j C z=>by cases z) (k.out hb)⟩
 have hs:∀h',Xt X h' (YG fr) ⟨some d,op,ty,p,af,g⟩=some (.val v,.none)->Qn X.P wm rd ops ⟨some d,op,ty,p,af,g⟩ (fun _=>False) fr h' v h':=fun h' ha'=>by
  have:=(ZbK (wm:=wm) (rd:=rd) hg (.inl ha') (h1:=h') rfl).1
  simpa[Eff.tgt]using this
 refine⟨fun hw=>⟨h,rfl,hs h ha,⟨K1 _,fun _ _ _=>rfl,fun _ _ z=>z,fun _ _ z=>z⟩⟩,fun _ z=>z.elim,fun d' e=>(by cases e;rwa[G4]at hd),fun hh=>⟨fun _ z=>z,rfl,fun g=>hs g ?_⟩,fun _ z=>z.elim⟩;rw[ZfD h g hh];exact ha
def Vf{d:Nat}{op:Op}{v:Value}(ha:Xt X h (YG fr) ⟨some d,op,ty,p,af,none⟩=some (.val v,.none))(k:WX X n wm rd ops sf (m+1) h l (Tr.set fr d v) Q)(hd:Nat.blt d n=true:=by exact rfl)(hM:okM ops sf m ⟨some d,op,ty,p,af,none⟩=true:=by exact rfl):WX X n wm rd ops sf m h (⟨some d,op,ty,p,af,none⟩::l) fr Q:=WX.w gN hd ha k hM
def WX.off{d:Nat}{op:Op}(hg:ZfJ ops ⟨some d,op,ty,p,af,g⟩ fr)(hd:Nat.blt d n=true)(k:WX X n wm rd ops sf (m+1) h l (Tr.set fr d undef) Q)(hM:okM ops sf m ⟨some d,op,ty,p,af,g⟩=true):
 WX X n wm rd ops sf m h (⟨some d,op,ty,p,af,g⟩::l) fr Q:=by
 refine⟨fun hb=>WE.cons (T:=fun _=>False) (xs0:=[]) (v:=undef) [] [] none ?_ (fun _ z=>by simp at z) (fun _ z=>z.elim) (fun _ z=>z.elim) (fun hh q hq=>.inl (KL hM hh q hq)) (fun x j C z=>by cases z) (k.out hb)⟩
 have hs:∀h',Qn X.P wm rd ops ⟨some d,op,ty,p,af,g⟩ (fun _=>False) fr h' undef h':=fun h'=>by
  have hds:Jm X (fun _=>true) (fun _=>none) (d+1) wm none false ops.toList ⟨some d,op,ty,p,af,g⟩ fr h'=some (none,undef,h'):=by
   unfold Jm;dsimp only;have:Nat.blt d (d+1)=true:=by rw[G4];omega
   rw[this,hg.1,hg.2];rfl
  have:=JK (rd:=rd) (K3 X) ZcX hds
  rwa[ZA6]at this
 exact⟨fun hw=>⟨h,rfl,hs h,⟨K1 _,fun _ _ _=>rfl,fun _ _ z=>z,fun _ _ z=>z⟩⟩,fun _ z=>z.elim,fun d' e=>(by cases e;rwa[G4]at hd),fun hh=>⟨fun _ z=>z,rfl,fun g=>hs g⟩,fun _ z=>z.elim⟩
def WX.gv{d:Nat}{op:Op}{c:Z}{v:N}(hg:Zn ops ⟨some d,op,ty,p,af,g⟩ fr c)(hd:Nat.blt d n=true)(ha:c=true->Xt X h (YG fr) ⟨some d,op,ty,p,af,g⟩=some (.val v,.none))(k:WX X n wm rd ops sf (m+1) h l (Tr.set fr d (cond c v undef)) Q)(hM:okM ops sf m ⟨some d,op,ty,p,af,g⟩=true):
 WX X n wm rd ops sf m h (⟨some d,op,ty,p,af,g⟩::l) fr Q:=by
 cases c
 ·exact WX.off hg hd k hM
 ·exact WX.w hg hd (ha rfl) k hM
open Classical in
def Xu (h:H) (R:Nat ->Prop):List Nat:= (List.range h.size).filter fun x=>decide (¬ R x)
def Za9{h:H}{R:Nat->Prop}{x:Nat}:x∈Xu h R↔x<h.size/\¬ R x:=by unfold Xu;simp
def Zyx{R:Nat->Prop}{x:Nat}(hx:R x):(mask (Xu h R) h).at x=h.at x:=by rw[Xj,if_neg (fun z=>(Za9.1 z).2 hx)]
def Up.hide(lo:Nat)(Y':U Nat)(h:H):Up lo (fun _=>False) h (Qa Y' h (mask Y' h)):=
 ⟨by rw[YN,Zo];exact K1 _,fun i hi _=>by
   rw[X3 _ _ _ (by rw[Zo];exact K1 _),Xj];by_cases hy:i∈Y'
   ·rw[if_pos ⟨hy,hi⟩]
   ·rw[if_neg (fun q=>hy q.1),if_neg hy],fun _ e=>e.elim⟩
def WX.wr{T0:Nat->Prop}{G:U (Ast wm)}{d:Nat}{op:Op}{v:N}(R:Nat->Prop)(hS:Sp wm T0 h0 G h)(hg:ZY ops ⟨some d,op,ty,p,af,g⟩ fr)(hd:Nat.blt d n=true)(ha:∀g':H,g'.size=h.size->(∀x,R x->g'.at x=h.at x)->Xt X g' (YG fr) ⟨some d,op,ty,p,af,g⟩=some (.val v,.none))
 (k:∀h',h'.size=h.size->Sp wm T0 h0 G h'->WX X n wm rd ops ⟨(m,fun x=>¬ R x)::sf.s,sf.m,sf.p⟩ (m+1) h' l (Tr.set fr d v) Q) (hh:ZT ⟨some d,op,ty,p,af,g⟩=false) (hM:okM ops sf m ⟨some d,op,ty,p,af,g⟩=true):
 WX X n wm rd ops sf m h (⟨some d,op,ty,p,af,g⟩::l) fr Q:=by
 have hsz:(Qa (Xu h R) h (mask (Xu h R) h)).size=h.size:=by rw[YN,Zo]
 refine⟨fun hb=>WE.cons (T:=fun _=>False) (xs0:=Xu h R) (h2:=Qa (Xu h R) h (mask (Xu h R) h)) (v:=v) [(m,fun x=>¬ R x)] [] none ?_ (fun q hq=>?_) (fun _ z=>z.elim) (fun _ z=>z.elim) (fun hh q hq=>.inl (KL hM hh q hq)) (fun x j C z=>by cases z) ((k _ hsz (hS.up (Up.hide wm _ h))).out fun q hq x hx=>by rw[hsz];exact hb q hq x hx)⟩
 ·have:=ZbK (wm:=wm) (rd:=rd) hg (.inl (ha _ (Zo _ _) fun x hx=>Zyx hx)) (h1:=mask (Xu h R) h) rfl;have t0:(fun x:Nat=>Eff.tgt Eff.none=some x)=fun _=>False:=by funext x;simp[Eff.tgt]
  rw[t0]at this;exact⟨fun hw=>⟨_,rfl,this.1,this.2.1 (by rw[Zo];exact hw)⟩,fun _ z=>z.elim,fun d' e=>(by cases e;rwa[G4]at hd),fun q=>Bool.noConfusion (hh.symm.trans q),fun _ z=>z.elim⟩
 ·rw[G7.1 hq];refine⟨rfl,fun x hx=>?_⟩;rcases Gp x h.size with z|z
  ·exact .inl ⟨z,Za9.2 ⟨z,hx⟩⟩
  ·exact .inr (by rw[hsz];exact z)
def HV(X:Ctx)(wm:Nat)(o:Oper)(fr:Fr)(h:H)(T:Nat->Prop)(K:N->H->Prop):Prop:=∃v E h1,Xt X h (YG fr) o=some (.val v,E)/\E.apply wm h=some h1/\(∀x,E.tgt=some x->T x)/\h.size<=h1.size/\K v h1
def HU(X:Ctx)(wm:Nat)(o:Oper)(fr:Fr)(h:H)(T:Nat->Prop)(K:H->Prop):Prop:=∃E h1,Xt X h (YG fr) o=some (.skip,E)/\E.apply wm h=some h1/\(∀x,E.tgt=some x->T x)/\h.size<=h1.size/\K h1
def WO.hv{Q:XX->Fs->Prop}{d:Nat}{op:Op}{T:Nat->Prop}{K:N->H->Prop}(hg:ZY ops ⟨some d,op,ty,p,af,g⟩ fr)(hd:Nat.blt d n=true)(s:HV X wm ⟨some d,op,ty,p,af,g⟩ fr h T K)(k:∀v h',K v h'->WO X n wm rd ops l ⟨Tr.set fr d v,ds,h',none⟩ Q):
 WO X n wm rd ops (⟨some d,op,ty,p,af,g⟩::l) ⟨fr,ds,h,none⟩ Q:=let⟨v,_,h1,ha,hE,_,_,hk⟩:=s;WO.v hg hd ha hE (k v h1 hk)
def WO.hu{Q:XX->Fs->Prop}{op:Op}{T:Nat->Prop}{K:H->Prop}(hg:ZY ops ⟨none,op,ty,p,af,g⟩ fr)(s:HU X wm ⟨none,op,ty,p,af,g⟩ fr h T K)(k:∀h',K h'->WO X n wm rd ops l ⟨fr,ds,h',none⟩ Q):
 WO X n wm rd ops (⟨none,op,ty,p,af,g⟩::l) ⟨fr,ds,h,none⟩ Q:=let⟨_,h1,ha,hE,_,_,hk⟩:=s;WO.u hg ha hE (k h1 hk)
def XP(sf:ST)(T:Nat->Prop)(is:U Nat):Prop:=∀i∈is,∃V,(i,V)∈sf.s/\∀x,T x->V x
def XP.e{T:Nat->Prop}:XP sf T []:=fun _ z=>by simp at z
inductive Zwi(i:Nat)(V:Nat->Prop):List (Nat×(Nat->Prop))->Prop
 | z {r:List (Nat×(Nat->Prop))}:Zwi i V ((i,V)::r)
 | s {q:Nat×(Nat->Prop)} {r:List (Nat×(Nat->Prop))}:Zwi i V r->Zwi i V (q::r)
def Zwi.mem{i:Nat}{V:Nat->Prop}{r:U (Nat×(Nat->Prop))}(h:Zwi i V r):(i,V)∈r:=by
 induction h with
 | z=>simp
 | s _ ih=>simp[ih]
def XP.c{T V:Nat->Prop}{i:Nat}{is:U Nat}(hm:Zwi i V sf.s)(hv:∀x,T x->V x)(b:XP sf T is):XP sf T (i::is):=fun j hj=>by
 rcases Kx.1 hj with z|z
 ·subst z;exact⟨V,hm.mem,hv⟩
 ·exact b j z
def Zx5{d:O Tmp}{op:Op}{v:N}{T:Nat->Prop}{E:Eff}(hg:ZY ops ⟨d,op,ty,p,af,g⟩ fr)(hd:∀d',d=some d'->d'<n)(ha:Xt X h (YG fr) ⟨d,op,ty,p,af,g⟩=some (.val v,E)\/Xt X h (YG fr) ⟨d,op,ty,p,af,g⟩=some (.skip,E)/\v=undef)(hE:E.apply wm h=some h1)(hT:∀x,E.tgt=some x->T x)(hsz:h.size<=h1.size)
 (k:WX X n wm rd ops ⟨sf.s,(m,fun x=>T x/\x<h.size)::sf.m,sf.p⟩ (m+1) h1 l (Ji fr d v) Q) (hh:ZT ⟨d,op,ty,p,af,g⟩=false) (hM:okM ops sf m ⟨d,op,ty,p,af,g⟩=true) (is:U Nat) (hB:okB ops m is=true) (hi:XP sf T is):
 WX X n wm rd ops sf m h (⟨d,op,ty,p,af,g⟩::l) fr Q:=by
 refine⟨fun hb=>?_⟩;by_cases hw:wm<=h.size
 ·have hs:=ZbK (wm:=wm) (rd:=rd) hg ha hE
  refine WE.cons (T:=fun x=>E.tgt=some x) (xs0:=[]) (h2:=h1) (v:=v) [] [(m,fun x=>T x/\x<h.size)] none ⟨fun _=>⟨h1,rfl,hs.1,hs.2.1 hw⟩,hs.2.2 hw,hd,fun q=>Bool.noConfusion (hh.symm.trans q),fun _ _ _ z=>by simp at z⟩ (fun _ z=>by simp at z) (fun x hx hl=>⟨_,G7.2 rfl,rfl,hT x hx,hl⟩)
   (fun x hx hl i o' hi' ho'=>?_) (fun hh q hq=>.inl (KL hM hh q hq)) (fun x j C z=>by cases z) (k.out fun q hq x hx=>?_)
  ·rcases ZoJ hB hi' ho' with z|z|z
   ·exact .inl z
   ·exact .inr (.inl z)
   ·obtain⟨V,q1,q2⟩:=hi i z;exact .inr (.inr (.inl ⟨V,q1,q2 x (hT x hx)⟩))
  ·rcases Kx.1 hq with z|z
   ·subst z;exact Jx hx.2 hsz
   ·exact Jx (hb q z x hx) hsz
 ·refine WE.cons (T:=fun _=>False) (xs0:=[]) (h2:=h1) (v:=v) [] [(m,fun x=>T x/\x<h.size)] none ⟨fun z=>absurd z hw,fun _ z=>z.elim,hd,fun q=>Bool.noConfusion (hh.symm.trans q),fun _ z=>z.elim⟩ (fun _ z=>by simp at z) (fun x hx hl=>hx.elim)
   (fun x hx=>hx.elim) (fun hh q hq=>.inl (KL hM hh q hq)) (fun x j C z=>by cases z) (k.out fun q hq x hx=>?_)
  rcases Kx.1 hq with z|z
  ·subst z;exact Jx hx.2 hsz
  ·exact Jx (hb q z x hx) hsz
def WX.hv{d:Nat}{op:Op}{T:Nat->Prop}{K:N->H->Prop}(hg:ZY ops ⟨some d,op,ty,p,af,g⟩ fr)(hd:Nat.blt d n=true)(s:HV X wm ⟨some d,op,ty,p,af,g⟩ fr h T K)
 (k:∀v h',K v h'->WX X n wm rd ops ⟨sf.s,(m,fun x=>T x/\x<h.size)::sf.m,sf.p⟩ (m+1) h' l (Tr.set fr d v) Q) (hh:ZT ⟨some d,op,ty,p,af,g⟩=false) (hM:okM ops sf m ⟨some d,op,ty,p,af,g⟩=true) (is:U Nat) (hB:okB ops m is=true) (hi:XP sf T is):
 WX X n wm rd ops sf m h (⟨some d,op,ty,p,af,g⟩::l) fr Q:=
 let⟨v,_,h1,ha,hE,hT,hz,hk⟩:=s;Zx5 hg (fun d' e=>by cases e;rwa[G4]at hd) (.inl ha) hE hT hz (k v h1 hk) hh hM is hB hi
def WX.hu{op:Op}{T:Nat->Prop}{K:H->Prop}(hg:ZY ops ⟨none,op,ty,p,af,g⟩ fr)(s:HU X wm ⟨none,op,ty,p,af,g⟩ fr h T K)
 (k:∀h',K h'->WX X n wm rd ops ⟨sf.s,(m,fun x=>T x/\x<h.size)::sf.m,sf.p⟩ (m+1) h' l fr Q) (hh:ZT ⟨none,op,ty,p,af,g⟩=false) (hM:okM ops sf m ⟨none,op,ty,p,af,g⟩=true) (is:U Nat) (hB:okB ops m is=true) (hi:XP sf T is):
 WX X n wm rd ops sf m h (⟨none,op,ty,p,af,g⟩::l) fr Q:=
 let⟨_,h1,ha,hE,hT,hz,hk⟩:=s;Zx5 (v:=undef) hg (fun d' e=>by cases e) (.inr ⟨ha,rfl⟩) hE hT hz (k h1 hk) hh hM is hB hi
def ZnG(h:H){A:YS}(hA:A.own=true):Eff.apply wm h (.new A)=some (h.push A):=by show(bif A.own then some (h.push A) else none)=_;rw[hA];rfl
def HN(X:Ctx)(wm:Nat)(o:Oper)(fr:Fr)(h:H)(K:N->H->Prop):Prop:=∃v A,A.own=true/\(∀g:H,g.size=h.size->Xt X g (YG fr) o=some (.val v,.new A))/\∀h',Up wm (fun _=>False) h h'->h'.at h.size=A->h'.size=h.size+1->K v h'
def WO.hn{Q:XX->Fs->Prop}{d:Nat}{op:Op}{K:N->H->Prop}(hg:ZY ops ⟨some d,op,ty,p,af,g⟩ fr)(hd:Nat.blt d n=true)(s:HN X wm ⟨some d,op,ty,p,af,g⟩ fr h K)(k:∀v h',K v h'->WO X n wm rd ops l ⟨Tr.set fr d v,ds,h',none⟩ Q):
 WO X n wm rd ops (⟨some d,op,ty,p,af,g⟩::l) ⟨fr,ds,h,none⟩ Q:=let⟨v,A,hA,ha,hk⟩:=s;WO.v hg hd (ha h rfl) (ZnG h hA) (k v _ (hk _ (Up.push wm h A) (QU h A) (by simp)))
def Ve{Q:XX->Fs->Prop}{d:Nat}{op:Op}{K:Value->H->Prop}(s:HN X wm ⟨some d,op,ty,p,af,none⟩ fr h K)(k:∀v h',K v h'->WO X n wm rd ops l ⟨Tr.set fr d v,ds,h',none⟩ Q)(hd:Nat.blt d n=true:=by exact rfl):WO X n wm rd ops (⟨some d,op,ty,p,af,none⟩::l) ⟨fr,ds,h,none⟩ Q:=WO.hn gN hd s k
def WX.hn{d:Nat}{op:Op}{K:N->H->Prop}(hg:ZY ops ⟨some d,op,ty,p,af,g⟩ fr)(hd:Nat.blt d n=true)(s:HN X wm ⟨some d,op,ty,p,af,g⟩ fr h K)(k:∀v h',K v h'->WX X n wm rd ops ⟨(m,fun x=>x≠h.size)::sf.s,sf.m,sf.p⟩ (m+1) h' l (Tr.set fr d v) Q)(hh:ZT ⟨some d,op,ty,p,af,g⟩=false):
 WX X n wm rd ops sf m h (⟨some d,op,ty,p,af,g⟩::l) fr Q:=by
 obtain⟨v,A,hA,ha,hk⟩:=s;have hmm:∀x,x∈Xu h (fun _=>False)↔x<h.size:=fun x=>by rw[Za9];simp
 have hsz:(Qa (Xu h fun _=>False) h ((mask (Xu h fun _=>False) h).push A)).size=h.size+1:=by rw[YN,H.size_push,Zo]
 have hle:h.size<=((mask (Xu h fun _=>False) h).push A).size:=by rw[H.size_push,Zo];omega
 have hu:Up wm (fun _=>False) h (Qa (Xu h fun _=>False) h ((mask (Xu h fun _=>False) h).push A)):=
  ⟨by rw[hsz];omega,fun i hi _=>by rw[X3 _ _ _ hle,if_pos ⟨(hmm i).2 hi,hi⟩],fun _ e=>e.elim⟩
 have hat:(Qa (Xu h fun _=>False) h ((mask (Xu h fun _=>False) h).push A)).at h.size=A:=by
  rw[X3 _ _ _ hle,if_neg (fun q=>Nat.lt_irrefl _ q.2)];have:=QU (mask (Xu h fun _=>False) h) A
  rwa[Zo]at this
 refine⟨fun hb=>WE.cons (T:=fun _=>False) (xs0:=Xu h fun _=>False) (v:=v) [(m,fun x=>x≠h.size)] [] none ?_ (fun q hq=>?_) (fun _ z=>z.elim) (fun _ z=>z.elim) (fun _ q hq=>.inr fun x hx=>?_) (fun x j C z=>by cases z)
  ((k v _ (hk _ hu hat hsz)).out fun q hq x hx=>by rw[hsz];exact Nat.lt_succ_of_lt (hb q hq x hx))⟩
 ·have:=ZbK (wm:=wm) (rd:=rd) hg (.inl (ha _ (Zo _ _))) (h1:=(mask (Xu h fun _=>False) h).push A) (ZnG _ hA);have t0:(fun x:Nat=>Eff.tgt (Eff.new A)=some x)=fun _=>False:=by funext x;simp[Eff.tgt]
  rw[t0]at this;exact⟨fun hw=>⟨_,rfl,this.1,this.2.1 (by rw[Zo];exact hw)⟩,fun _ z=>z.elim,fun d' e=>(by cases e;rwa[G4]at hd),fun q=>Bool.noConfusion (hh.symm.trans q),fun _ z=>z.elim⟩
 ·rw[G7.1 hq];refine⟨rfl,fun x hx=>?_⟩;rcases Gp x h.size with z|z
  ·exact .inl ⟨z,(hmm x).2 z⟩
  ·right;rw[hsz];have:x≠h.size:=hx;omega
 ·exact .inl ⟨hb q hq x hx,(hmm x).2 (hb q hq x hx)⟩
end
section
variable{X:Ctx}{n wm:Nat}{rd:O Nat}{ops:V4 Oper}{l:U Oper}{fr:Fr}{ds:U V6}{h h1 h2 h0:H}{ty:J}{p:String}{af:V4 Edge}{g:O (Nat×Z)}{m:Nat}{T:Nat->Prop}{G Gr Ga Gb:U (Ast wm)}{d:Nat}{sf:ST}
def ZgR{x:GZ}{t:J}{v:N}{vs:U N}(hS:Sp wm T h0 G h)(hx:YG fr x=some v)(hv:v.cells.toList=vs):
 HN X wm ⟨some d,.box t x,ty,p,af,g⟩ fr h (fun v h'=>∃b,h.size=b/\v=(V9 b)/\Sp wm T h0 (bx wm b vs::G) h'):=by
 subst hv;refine⟨(V9 h.size),.row v.cells.toList true 0,rfl,fun g' hz=>?_,fun h' u hat _=>⟨h.size,rfl,rfl,hS.new u ⟨hat,hS.hw⟩ fun i e=>Nat.le_of_eq e.symm⟩⟩;rw[ZDV,hx];dsimp only;rw[<-hz];rfl
def U3{t:J}{v:N}{vs:U N}(hS:Sp wm T h0 G h)(hz:YM X.P t=some v)(hv:v.cells.toList=vs):
 HN X wm ⟨some d,.alloc t,ty,p,af,g⟩ fr h (fun v h'=>∃b,h.size=b/\v=(V9 b)/\Sp wm T h0 (bx wm b vs::G) h'):=by
 subst hv;refine⟨(V9 h.size),.row v.cells.toList true 0,rfl,fun g' hz'=>?_,fun h' u hat _=>⟨h.size,rfl,rfl,hS.new u ⟨hat,hS.hw⟩ fun i e=>Nat.le_of_eq e.symm⟩⟩;rw[Zv6,hz];dsimp only;rw[<-hz'];rfl
def JO{x y:GZ}{t:J}{b o sz:Nat}{cs cs' vs:U N}{v:N}(hS:Sp wm T h0 G h)(pk:Pk G (bx wm b cs) Gr)(hs:Yz X.P t=some sz)(hx:YG fr x=some (.pointer (some ⟨b,o,none⟩)))(hy:YG fr y=some v)
 (hvs:v.cells.toList=vs) (hn:Nat.beq vs.length sz=true) (hl:Nat.ble (o+sz) cs.length=true) (hc:vs.all Value.oneCell'=true) (hv:splice cs o vs=cs'):
 HU X wm ⟨none,.store t x y,ty,p,af,g⟩ fr h (fun i=>i=b) (fun h'=>Sp wm T h0 (bx wm b cs'::Gr) h'):=by
 obtain⟨hr,hw⟩:=hS.get pk;obtain⟨e1,e2⟩:=ZJ6 (d:=none) (ty:=ty) (p:=p) (af:=af) (g:=g) hs hx hy hr hw hvs (Nb0 hn) (Nl0 hl) hc hv;refine⟨_,_,e1,e2,fun x hx=>?_,by simp,?_⟩
 ·simpa[Eff.tgt,eq_comm]using hx
 ·exact hS.one pk (Up.put hw (by rw[hr];rfl)) (fun i e=>e) ⟨YU (Qf hr rfl) _,hw⟩ fun i e=>.inl e
def Zaf{x:GZ}{t e':J}{a:O Addr}{mm cc:Nat}{k:Int}(hu:X.P.underlying t=some (.slice e'))(hx:YG fr x=some (.slice a mm cc))(hk:(mm:Int)=k):
 Xt X h (YG fr) ⟨some d,.call {callee:=.builtin .len,args:=#[x],argTypes:=#[t]},ty,p,af,g⟩=some (.val (V8 k),.none):=by subst hk;exact ZIX hu hx
section
variable{α:Type}{e:JY α}
def KI{t el:J}{mm:Nat}{ps:V4 (Nat×GZ)}{pvs:U (Nat×N)}{z:N}{zs:U N}{xs:U α}(hS:Sp wm T h0 G h)
 (hu:X.P.underlying t=some (.slice el)) (hs:Yz X.P el=some e.sz) (hz:YM X.P el=some z) (hzs:z.cells.toList=zs) (hzl:zs.length=e.sz) (hm:Nat.ble (mm*e.sz) 10000=true) (hp:evp (YG fr) ps.toList=some pvs)
 (ho:Zjk (fun i=>some (i*e.sz,e.sz)) (ZbH zs mm).length pvs=true) (qs:U (e.Par×α)) (hv:ZpP (fun i=>i*e.sz) (ZbH zs mm) pvs=qs.flatMap fun q=>e.sh q.1 q.2) (hq:qs.map (·.2)=xs) (hF:∀q∈qs,e.F wm h q.1 q.2) (hlen:Nat.beq mm xs.length=true):
 HN X wm ⟨some d,.buildSlice t mm ps,ty,p,af,g⟩ fr h (fun v h'=>∃b,h.size=b/\v=.slice (some ⟨b,0,none⟩) mm (2*mm)/\Sp wm T h0 (ow wm e (some ⟨b,0,none⟩) mm (2*mm) xs::G) h'):=by
 have hlen:=Nb0 hlen;subst hlen;have hm':=Nl0 hm;refine⟨.slice (some ⟨h.size,0,none⟩) xs.length (2*xs.length),.row (qs.flatMap fun q=>e.sh q.1 q.2) true e.sz,rfl,fun g' hz'=>?_,fun h' u hat _=>⟨h.size,rfl,rfl,hS.new u ⟨rfl,?_⟩ fun i ⟨o,e⟩=>by cases e;exact K1 _⟩⟩
 ·show(match evp (YG fr) ps.toList with
   | some ps=>vE (ZqC X.P g' t xs.length ps)
   | none=>none)=_
  rw[hp];dsimp only;unfold ZqC;rw[hu];dsimp only;rw[hs,hz];dsimp only;rw[hzs,hzl];have b1:Nat.ble 1 e.sz=true:=Nm0 e.pos;rw[b1,hm,Nat.beq_refl];simp only[Bool.and_self,Cq1];rw[ZqK (off:=fun i=>i*e.sz) (fun i p e=>by cases e;rfl) _ _ ho,hv,hz']
  rfl
 ·have hel:=Q7.ZCd (h:=h) (wm:=wm) qs hF;rw[hq]at hel;have hl2:=hel.len
  have hmax:xs.length<=9223372036854775807:=by
   have:xs.length*1<=xs.length*e.sz:=Nat.mul_le_mul_left _ e.pos;omega
  refine UR.mk' hmax hS.hw hat Va ?_ (hel.mono (u.fz Vb));have:2*xs.length / 2=xs.length:=Va
  rw[this];omega
def ZDZ{P:V0}{ts:V4 J}{a:O Addr}{nn c:Nat}{y v:N}{E:Eff}{x0:Nat}(ha:Q5 P h ts (.slice a nn c) y=some (v,E))(ht:E.tgt=some x0):Uf a x0:=by
 unfold Q5 at ha;cases hi:Kt P ts with
 | none=>rw[hi]at ha;cases ha
 | some q=>
   obtain⟨q1,sz,KX,q4⟩:=q;rw[hi]at ha;dsimp only at ha;cases hr:reads h y sz with
   | none=>rw[hr]at ha;cases ha
   | some new=>
     rw[hr]at ha;dsimp only at ha;cases hb:Nat.ble (nn+QJ y) (c / 2) with
     | true=>
       rw[hb,Cq1]at ha;cases hz:Nat.beq (QJ y) 0 with
       | true=>rw[hz,Cq1]at ha;cases ha;cases ht
       | false=>
         rw[hz,Cq0]at ha;split at ha
         ·split at ha
          ·rw[Bool.cond_eq_ite]at ha;split at ha
           ·cases ha;cases ht;exact⟨_,rfl⟩
           ·cases ha
          ·cases ha
         ·cases ha
     | false=>
       rw[hb,Cq0]at ha;cases hq:(Nat.ble ((2*(nn+QJ y)+1000)*KX) (2 ^ 47)&&new.all Value.oneCell') with
       | false=>rw[hq,Cq0]at ha;cases ha
       | true=>
         rw[hq,Cq1]at ha;split at ha
         ·cases hz:Nat.beq (c % 2) 0 with
          | true=>rw[hz,Cq1]at ha;cases ha;cases ht
          | false=>
            rw[hz,Cq0]at ha;split at ha
            ·split at ha
             ·rw[Bool.cond_eq_ite]at ha;split at ha
              ·cases ha;cases ht;exact⟨_,rfl⟩
              ·cases ha
             ·cases ha
            ·cases ha
         ·cases ha
def ZI0{ts:V4 J}{x y:GZ}{a:O Addr}{nn c:Nat}{v w:N}{E:Eff}{x0:Nat}(hx:YG fr x=some (.slice a nn c))(hy:YG fr y=some w)(ha:Xt X h (YG fr) ⟨some d,.call {callee:=.builtin .append,args:=#[x,y],argTypes:=ts},ty,p,af,g⟩=some (.val v,E))(ht:E.tgt=some x0):Uf a x0:=by
 have hev:evs (YG fr) [x,y]=some [.slice a nn c,w]:=Zb hx (Zb hy Zd);rw[Wx]at ha;have ZCS:evs (YG fr) (#[x,y]:V4 GZ).toList=some [.slice a nn c,w]:=hev;rw[ZCS]at ha;replace ha:vE (Q5 X.P h ts (.slice a nn c) w)=some (.val v,E):=ha;cases hh:Q5 X.P h ts (.slice a nn c) w with
 | none=>rw[hh]at ha;cases ha
 | some q=>rw[hh]at ha;obtain⟨v',E'⟩:=q;cases ha;exact ZDZ hh ht
def Zak{ts:V4 J}{x y:GZ}{KX:Nat}{a a2:O Addr}{nn n2 c c2:Nat}{xs ys zs:U α}(hS:Sp wm T h0 G h)(pk:Pk G (ow wm e a nn c xs) Gr)(hi:Zg9 X.P ts e.sz KX)(hx:YG fr x=some (.slice a nn c))(hy:YG fr y=some (.slice a2 n2 c2))(sr:Src e wm h a2 c2 ys)(hn:n2=ys.length)(ha:app KX xs ys=some zs):
 HV X wm ⟨some d,.call {callee:=.builtin .append,args:=#[x,y],argTypes:=ts},ty,p,af,g⟩ fr h (Uf a) (fun v h'=>∃(a':O Addr) (c':Nat),v=.slice a' zs.length c'/\Sp wm T h0 (ow wm e a' zs.length c' zs::Gr) h'):=by
 obtain⟨h1,so⟩:=hS.get pk;subst h1 hn
 refine ZI1 (K:=HV X wm ⟨some d,.call {callee:=.builtin .append,args:=#[x,y],argTypes:=ts},ty,p,af,g⟩ fr h (Uf a) (fun v h'=>∃(a':O Addr) (c':Nat),v=.slice a' zs.length c'/\Sp wm T h0 (ow wm e a' zs.length c' zs::Gr) h'))
  (J':=fun v h'=>Up wm (Uf a) h h'/\∃(a':O Addr) (c':Nat),v=.slice a' zs.length c'/\Sp wm T h0 (ow wm e a' zs.length c' zs::Gr) h') wm (fun v E h1 e1 e2 ⟨u,j⟩=>⟨v,E,h1,e1,e2,fun x0 hx0=>?_,u.size,j⟩) hi Vb hS.hw hx hy so sr ha
  (fun a' c' h' u so' hb=>⟨u,a',c',rfl,hS.one pk u (fun i q=>q) ⟨rfl,so'⟩ fun i q=>(hb i q).imp id fun z=>Nat.le_of_eq z.symm⟩)
 exact ZI0 hx hy e1 hx0
end
end
section
variable{X:Ctx}{n wm:Nat}{rd:O Nat}{ops:V4 Oper}{l:U Oper}{fr:Fr}{ds:U V6}{h h1 h2 h0:H}{ty:J}{p:String}{af:V4 Edge}{g:O (Nat×Z)}{m:Nat}{T:Nat->Prop}{G Gr Ga Gb:U (Ast wm)}{d:Nat}{sf:ST}
section
variable{P:V0}{t:J}{i x0:Nat}{k x:N}{E:Eff}
def ZDX(ha:Qm P h t (.map (some i)) k x=some E)(ht:E.tgt=some x0):x0=i:=by
 unfold Qm at ha;split at ha
 ·rename_i heq _;cases heq;rw[Bool.cond_eq_ite]at ha;split at ha
  ·split at ha
   ·split at ha
    ·rw[Bool.cond_eq_ite]at ha;split at ha
     ·cases ha;cases ht;rfl
     ·cases ha
    ·cases ha
   ·cases ha;cases ht;rfl
   ·cases ha
  ·cases ha
 ·cases ha
end
section
variable{κ ν:Type}[DecidableEq κ]{kt vt:J}{kv:κ->N}{vv:ν->N}{i:Nat}{ll:U (κ×ν)}
theorem ZgQ{t:J}(kv:κ->N)(vv:ν->N)(hS:Sp wm T h0 G h):
 HN X wm ⟨some d,.makeMap t none,ty,p,af,g⟩ fr h (fun v h'=>∃b,h.size=b/\v=.map (some b)/\Sp wm T h0 (mp wm kv vv (some b) []::G) h'):=
 ⟨.map (some h.size),.map [] 0,rfl,fun g' hz=>by rw[<-hz];rfl,fun h' u hat _=>⟨h.size,rfl,rfl,hS.new u ⟨⟨.inr ⟨h.size,[],0,rfl,hat,rfl,by simp,by simp⟩⟩,fun i e=>by cases e;exact hS.hw⟩ fun i e=>by cases e;exact K1 _⟩⟩
theorem ZeA{t:J}{x y z:GZ}{k:κ}{v:ν}(hS:Sp wm T h0 G h)(pk:Pk G (mp wm kv vv (some i) ll) Gr)(K:ZgI X.P kt kv)(hu:X.P.underlying t=some (.map kt vt))(hx:YG fr x=some (.map (some i)))(hy:YG fr y=some (kv k))(hz:YG fr z=some (vv v)):
 HU X wm ⟨none,.mapUpdate t x y z,ty,p,af,g⟩ fr h (fun j=>j=i) (fun h'=>Sp wm T h0 (mp wm kv vv (some i) (Xw ll k v)::Gr) h'):=by
 obtain⟨h',⟨E,ha,hE,_⟩,u,ho⟩:=ZGf (d:=none) (ty:=ty) (p:=p) (af:=af) (g:=g) K hu (K1 wm) hx rfl hy hz (hS.get pk);refine⟨E,h',ha,hE,fun x0 hx0=>?_,u.size,hS.one pk u (fun j e=>e) ho fun j e=>.inl e⟩;have ha':(match YG fr x,YG fr y,YG fr z with|some m,some k,some x=>sE (Qm X.P h t m k x) | _,_,_=>none)=some (.skip,E):=ha;rw[hx,hy,hz]at ha';dsimp only at ha';cases hh:Qm X.P h t (.map (some i)) (kv k) (vv v) with
 | none=>rw[hh]at ha';cases ha'
 | some E'=>rw[hh]at ha';cases ha';exact ZDX hh hx0
end
end
section
variable{X:Ctx}{n wm:Nat}{rd:O Nat}{ops:V4 Oper}{l:U Oper}{fr:Fr}{ds:U V6}{h h1 h2 h0:H}{ty:J}{p:String}{af:V4 Edge}{g:O (Nat×Z)}{m:Nat}{T:Nat->Prop}{G Gr Ga Gb:U (Ast wm)}{d:Nat}{sf:ST}
def CP{wm:Nat}(K:N->U (Ast wm)->Prop)(Ga:U (Ast wm))(h:H):N->H->Prop:=fun v h'=>∃Gb,K v Gb/\Sp wm (QF Ga) h Gb h'
def Yo(X:Ctx)(fr:Fr)(o:Oper)(f:V2)(args:V4 N):Prop:=∀h:H,Xt X h (YG fr) o=some (.enter f args,.none)
def Yo.fn{f:V2}{xs:V4 GZ}{ts:V4 J}{vs:U N}{d:O Tmp}(hf:(X.fns.get f).isSome=true)(hx:evs (YG fr) xs.toList=some vs):Yo X fr ⟨d,.call {callee:=.value (.func f),args:=xs,argTypes:=ts},ty,p,af,g⟩ f vs.toArray:=fun h=>by
 obtain⟨fn,hf⟩:=GT.1 hf;rw[Zdl,hx];dsimp only;rw[ZqL];dsimp only;exact ZAP hf
def Yo.clo{f:V2}{fo:GZ}{xs:V4 GZ}{ts:V4 J}{vs first cap args:U N}{d:O Tmp}(hc:YG fr fo=some (.func (.func f) first.toArray cap.toArray))(hf:(X.fns.get f).isSome=true)(hx:evs (YG fr) xs.toList=some vs)(ha:first++vs++cap=args):
 Yo X fr ⟨d,.call {callee:=.value fo,args:=xs,argTypes:=ts},ty,p,af,g⟩ f args.toArray:=fun h=>by
 obtain⟨fn,hf⟩:=GT.1 hf;subst ha;rw[Zdl,hx];dsimp only;rw[hc];dsimp only;unfold U5;dsimp only;rw[hf]
def WO.en{Q:XX->Fs->Prop}{op:Op}{f:V2}{args:V4 N}{v:N}{h2:H}(hg:ZY ops ⟨some d,op,ty,p,af,g⟩ fr)(hd:Nat.blt d n=true)(he:Yo X fr ⟨some d,op,ty,p,af,g⟩ f args)
 (hc:Yn X (.call f args wm h) (.fin (.ret v) h2)) (k:WO X n wm rd ops l ⟨Tr.set fr d v,ds,h2,none⟩ Q):WO X n wm rd ops (⟨some d,op,ty,p,af,g⟩::l) ⟨fr,ds,h,none⟩ Q:=
 WO.call hg hd (he h) rfl hc k
def WO.cl{Q:XX->Fs->Prop}{op:Op}{f:V2}{args:V4 N}{K:N->U (Ast wm)->Prop}(hg:ZY ops ⟨some d,op,ty,p,af,g⟩ fr)(hd:Nat.blt d n=true)(he:Yo X fr ⟨some d,op,ty,p,af,g⟩ f args)(hS:Sp wm T h0 G h)(pk:Sel G Ga Gr)
 (hc:∀g':H,g'.size=h.size->Fz wm h g'->Yp Ga g'->WR X f args wm g' (CP K Ga g')) (k:∀v h' Gb,K v Gb->Sp wm T h0 (Gb++Gr) h'->WO X n wm rd ops l ⟨Tr.set fr d v,ds,h',none⟩ Q):
 WO X n wm rd ops (⟨some d,op,ty,p,af,g⟩::l) ⟨fr,ds,h,none⟩ Q:=by
 obtain⟨e,h',⟨v,rfl,Gb,hk,hs⟩,hj⟩:=hc h rfl (Fz.refl _ _) (hS.Zbc pk);exact WO.en hg hd he hj (k v h' Gb hk (hS.call pk hs))
def Vd{Q:XX->Fs->Prop}{op:Op}{f:FuncId}{args:Array Value}{K:Value->List (Ast wm)->Prop}(he:Yo X fr ⟨some d,op,ty,p,af,none⟩ f args)(hS:Sp wm T h0 G h)(pk:Sel G Ga Gr)
 (hc:∀g':H,g'.size=h.size->Fz wm h g'->Yp Ga g'->WR X f args wm g' (CP K Ga g')) (k:∀v h' Gb,K v Gb->Sp wm T h0 (Gb++Gr) h'->WO X n wm rd ops l ⟨Tr.set fr d v,ds,h',none⟩ Q) (hd:Nat.blt d n=true:=by exact rfl):WO X n wm rd ops (⟨some d,op,ty,p,af,none⟩::l) ⟨fr,ds,h,none⟩ Q:=WO.cl gN hd he hS pk hc k
def Qn.mono{P:V0}{o:Oper}{M M':Nat->Prop}{v:N}(hM:∀i,i<h.size->M i->M' i)(s:Qn P wm rd ops o M fr h v h2):Qn P wm rd ops o M' fr h v h2:=fun ρ a w F K Q r Zy hf hF hK=>
 s ρ a w F K Q r Zy hf hF fun ρ' v' w' hv r' st=>hK ρ' v' w' hv r' (st.weaken hM r.lt)
def Sp.ZKw(hh:Yp Ga h)(c:Sp wm (QF Ga) h Gb h2):Ue (QF Ga) h h2:=by
 refine⟨c.size,c.keep,fun i hi ho=>?_,fun i hi ho=>?_⟩
 ·by_cases ht:QF Ga i
  ·exact(hh.own ht).2
  ·rwa[c.keep i hi ht]at ho
 ·by_cases ht:QF Ga i
  ·exact UJ (hh.own ht).2
  ·rwa[c.keep i hi ht]at ho
open Classical in
def JC (wm:Nat) (h:H) (R:Nat ->Prop):List Nat:= (List.range h.size).filter fun x=>decide (wm <=x∧(h.at x).own=true∧¬ R x)
def Un{R:Nat->Prop}{x:Nat}:x∈JC wm h R↔x<h.size/\wm<=x/\(h.at x).own=true/\¬ R x:=by unfold JC;simp
def WX.clC{Q:Fr->H->Prop}(to:U (Nat×(Nat->Prop))){op:Op}{f:V2}{args:V4 N}{K:N->U (Ast wm)->Prop}(hg:ZY ops ⟨some d,op,ty,p,af,g⟩ fr)(hd:Nat.blt d n=true)(he:Yo X fr ⟨some d,op,ty,p,af,g⟩ f args)(hS:Sp wm T h0 G h)(pk:Sel G Ga Gr)
 (hc:∀g':H,g'.size=h.size->Fz wm h g'->Yp Ga g'->WR X f args wm g' (CP K Ga g')) (k:∀v h' Gb,K v Gb->Sp wm T h0 (Gb++Gr) h'->WX X n wm rd ops ⟨sf.s,to++sf.m,sf.p⟩ (m+1) h' l (Tr.set fr d v) Q)
 (hh:ZT ⟨some d,op,ty,p,af,g⟩=false) (hto:∀x,QF Ga x->x<h.size->∃q∈to,q.1=m/\q.2 x) (htb:∀q∈to,∀x,q.2 x->x<h.size) (hM:okM ops sf m ⟨some d,op,ty,p,af,g⟩=true) (hB:∀x,QF Ga x->∀i o',i<m->ops.toList[i]? =some o'->Cmp ops i m\/ZT o'=true\/∃V,(i,V)∈sf.s/\V x):
 WX X n wm rd ops sf m h (⟨some d,op,ty,p,af,g⟩::l) fr Q:=by
 have ha:=hS.Zbc pk;have hw:=hS.hw;have hat:∀x,x∉JC wm h (QF Ga)->(mask (JC wm h (QF Ga)) h).at x=h.at x:=fun x hx=>by rw[Xj,if_neg hx]
 have hnf:∀x,QF Ga x->x∉JC wm h (QF Ga):=fun x hx q=>(Un.1 q).2.2.2 hx
 have hfz:Fz wm h (mask (JC wm h (QF Ga)) h):=by
  refine⟨by rw[Zo];exact K1 _,fun i cs own z e s=>?_,fun i h1 h2=>?_⟩
  ·rw[hat i fun q=>?_,e];have q:=Un.1 q;rcases s with s|s
   ·omega
   ·rw[e]at q;subst s;exact Bool.noConfusion q.2.2.1
  ·exact hat i fun q=>by have:=(Un.1 q).2.1;omega
 have hha:Yp Ga (mask (JC wm h (QF Ga)) h):=⟨fun A hA=>A.loc hfz (fun i f=>hat i (hnf i ⟨A,hA,f⟩)) (ha.all A hA),ha.dis⟩
 obtain⟨e,g2,⟨v,rfl,Gb,hk,hs⟩,hj⟩:=hc _ (Zo _ _) hfz hha;have hsz:h.size<=g2.size:=by have:=hs.size;rwa[Zo]at this
 have hua:=X3 (JC wm h (QF Ga)) h g2 hsz;have hout:∀x,x∉JC wm h (QF Ga)->(Qa (JC wm h (QF Ga)) h g2).at x=g2.at x:=fun x hx=>by rw[hua,if_neg (fun q=>hx q.1)]
 have hin:∀x,x∈JC wm h (QF Ga)->g2.at x=.dead:=fun x hx=>by
  have q:=Un.1 hx;rw[hs.keep x (by rw[Zo];exact q.1) q.2.2.2,Xj,if_pos hx]
 have hf2:Fz wm g2 (Qa (JC wm h (QF Ga)) h g2):=by
  refine⟨by rw[YN];exact K1 _,fun i cs own z e _=>?_,fun i h1 _=>hout i fun q=>by have:=(Un.1 q).2.1;omega⟩;rw[hout i fun q=>?_,e];rw[hin i q]at e;cases e
 have hsp:Sp wm (QF Ga) h Gb (Qa (JC wm h (QF Ga)) h g2):=by
  refine⟨hw,(hfz.trans hs.fz).trans hf2,fun i hi hn=>?_,⟨fun A hA=>A.loc hf2 (fun i f=>hout i fun q=>?_) (hs.hold.all A hA),hs.hold.dis⟩,fun i f=>by have:=hs.inn i f;rwa[Zo]at this⟩
  ·by_cases hx:i∈JC wm h (QF Ga)
   ·rw[hua,if_pos ⟨hx,hi⟩]
   ·rw[hout i hx,hs.keep i (by rw[Zo];exact hi) hn,hat i hx]
  ·have q':=Un.1 q;rcases hs.inn i ⟨A,hA,f⟩ with z|z
   ·exact q'.2.2.2 z
   ·rw[Zo]at z;omega
 have hown:∀x,QF Ga x->x<h.size:=fun x hx=>Zrq (ha.own hx).2
 refine⟨fun hb=>WE.cons (T:=QF Ga) (xs0:=JC wm h (QF Ga)) (v:=v) (h2:=Qa (JC wm h (QF Ga)) h g2) [] to none ?_ (fun _ z=>by simp at z) hto
  (fun x hx hl i o' hi' ho'=>?_) (fun hh q hq=>.inl (KL hM hh q hq)) (fun x j C z=>by cases z) ((k v _ Gb hk (hS.call pk hsp)).out fun q hq x hx=>?_)⟩
 ·refine⟨fun _=>⟨g2,rfl,(Zl7 hg (he _) (by rw[Zo];exact hw) hj).mono fun i hi hm=>?_,hs.ZKw hha⟩,fun x hx=>(ha.own hx).1,fun d' e=>by cases e;rwa[G4]at hd,fun q=>Bool.noConfusion (hh.symm.trans q),fun x hx _=>hnf x hx⟩;rw[Zo]at hi;by_cases ht:QF Ga i
  ·exact ht
  ·exfalso;by_cases hx:i∈JC wm h (QF Ga)
   ·rw[Xj,if_pos hx]at hm;cases hm.2
   ·rw[hat i hx]at hm;exact hx (Un.2 ⟨hi,hm.1,hm.2,ht⟩)
 ·exact(hB x hx i o' hi' ho').imp (fun z=>z) fun z=>z.imp (fun z=>z) .inl
 ·rw[YN];rcases Q1.1 hq with z|z
  ·exact Jx (htb q z x hx) hsz
  ·exact Jx (hb q z x hx) hsz
def WX.cl{Q:Fr->H->Prop}{op:Op}{f:V2}{args:V4 N}{K:N->U (Ast wm)->Prop}(hg:ZY ops ⟨some d,op,ty,p,af,g⟩ fr)(hd:Nat.blt d n=true)(he:Yo X fr ⟨some d,op,ty,p,af,g⟩ f args)(hS:Sp wm T h0 G h)(pk:Sel G Ga Gr)
 (hc:∀g':H,g'.size=h.size->Fz wm h g'->Yp Ga g'->WR X f args wm g' (CP K Ga g')) (k:∀v h' Gb,K v Gb->Sp wm T h0 (Gb++Gr) h'->WX X n wm rd ops ⟨sf.s,(m,fun x=>QF Ga x/\x<h.size)::sf.m,sf.p⟩ (m+1) h' l (Tr.set fr d v) Q)
 (hh:ZT ⟨some d,op,ty,p,af,g⟩=false) (hM:okM ops sf m ⟨some d,op,ty,p,af,g⟩=true) (is:U Nat) (hB:okB ops m is=true) (hi:XP sf (QF Ga) is):
 WX X n wm rd ops sf m h (⟨some d,op,ty,p,af,g⟩::l) fr Q:=
 WX.clC [(m,fun x=>QF Ga x/\x<h.size)] hg hd he hS pk hc k hh (fun x hx hl=>⟨_,G7.2 rfl,rfl,hx,hl⟩) (fun q hq x hx=>by rw[G7.1 hq]at hx;exact hx.2) hM fun x hx i o' hi' ho'=>(ZoJ hB hi' ho').imp (fun z=>z) fun z=>z.imp (fun z=>z) fun z=>let⟨V,q1,q2⟩:=hi i z;⟨V,q1,q2 x hx⟩
def WX.cl0{Q:Fr->H->Prop}{op:Op}{f:V2}{args:V4 N}{K:N->U (Ast wm)->Prop}(hg:ZY ops ⟨some d,op,ty,p,af,g⟩ fr)(hd:Nat.blt d n=true)(he:Yo X fr ⟨some d,op,ty,p,af,g⟩ f args)(hS:Sp wm T h0 G h)(pk:Sel G [] Gr)
 (hc:∀g':H,g'.size=h.size->Fz wm h g'->Yp ([]:U (Ast wm)) g'->WR X f args wm g' (CP K [] g')) (k:∀v h' Gb,K v Gb->Sp wm T h0 (Gb++Gr) h'->WX X n wm rd ops sf (m+1) h' l (Tr.set fr d v) Q)
 (hh:ZT ⟨some d,op,ty,p,af,g⟩=false) (hM:okM ops sf m ⟨some d,op,ty,p,af,g⟩=true):
 WX X n wm rd ops sf m h (⟨some d,op,ty,p,af,g⟩::l) fr Q:=
 WX.clC [] hg hd he hS pk hc k hh (fun x ⟨A,q,_⟩=>by simp at q) (fun q hq=>by simp at hq) hM fun x ⟨A,q,_⟩=>by simp at q
structure Cv{wm UC:Nat}(A:Ast UC)(B:Ast wm):Prop where
 imp:∀h,A.P h->B.P h
 fp:∀i,B.fp i->A.fp i
inductive Cvs{wm UC:Nat}:List (Ast UC)->List (Ast wm)->Prop
 | n:Cvs [] []
 | c {A:Ast UC} {B:Ast wm} {G':List (Ast UC)} {G:List (Ast wm)}:Cv A B->Cvs G' G->Cvs (A::G') (B::G)
def Cvs.hold{wm UC:Nat}{G':U (Ast UC)}{G:U (Ast wm)}(c:Cvs G' G)(s:Yp G' h):Yp G h/\∀i,QF G i->QF G' i:=by
 induction c with
 | n=>exact⟨Yp.nil,fun i ⟨A,m,_⟩=>by simp at m⟩
 | @c A B G' G cv _ ih=>
   have hr:Yp G' h:=Yp.right (Ga:=[A]) s;obtain⟨i1,i2⟩:=ih hr;have hd:=GW.1 s.dis;refine⟨⟨fun C hm=>?_,GW.2 ⟨fun C hm i f1 f2=>?_,i1.dis⟩⟩,fun i ⟨C,hm,f⟩=>?_⟩
   ·rcases Kx.1 hm with z|z
    ·rw[z];exact cv.imp h (s.all A (by simp))
    ·exact i1.all C z
   ·obtain⟨D,q1,q2⟩:=i2 i ⟨C,hm,f2⟩;exact hd.1 D q1 i (cv.fp i f1) q2
   ·rcases Kx.1 hm with z|z
    ·rw[z]at f;exact⟨A,by simp,cv.fp i f⟩
    ·obtain⟨D,q1,q2⟩:=i2 i ⟨C,z,f⟩;exact⟨D,by simp[q1],q2⟩
def Sp.clR{G':U (Ast h.size)}(s:Sp wm T h0 G h)(c:Sp h.size (QF ([]:U (Ast h.size))) h G' h2)(cv:Cvs G' Gb):Sp wm T h0 (Gb++G) h2:=by
 obtain⟨i1,i2⟩:=cv.hold c.hold;refine Sp.step (Ga:=[]) (t:=fun _=>False) s ⟨c.size,fun i hi _=>c.keep i hi fun⟨A,q,_⟩=>by simp at q,fun _ z=>z.elim⟩ (fun _ z=>z.elim) i1 fun i f=>?_
 rcases c.inn i (i2 i f) with⟨A,q,_⟩|z
 ·simp at q
 ·exact .inr z
def WO.clR{Q:XX->Fs->Prop}{op:Op}{f:V2}{args:V4 N}{K:N->U (Ast h.size)->Prop}(hg:ZY ops ⟨some d,op,ty,p,af,g⟩ fr)(hd:Nat.blt d n=true)(he:Yo X fr ⟨some d,op,ty,p,af,g⟩ f args)(hw:wm<=h.size)
 (hc:WR X f args h.size h (CP K [] h)) (k:∀v h' G',K v G'->Sp h.size (QF ([]:U (Ast h.size))) h G' h'->WO X n wm rd ops l ⟨Tr.set fr d v,ds,h',none⟩ Q):WO X n wm rd ops (⟨some d,op,ty,p,af,g⟩::l) ⟨fr,ds,h,none⟩ Q:=by
 obtain⟨e,h',⟨v,rfl,Gb,hk,hs⟩,hj⟩:=hc;exact WO.en hg hd he (hj.weaken hw Vb) (k v h' Gb hk hs)
def WX.ZFH{Q:Fr->H->Prop}{op:Op}{f:V2}{args:V4 N}{v:N}(hg:ZY ops ⟨some d,op,ty,p,af,g⟩ fr)(hd:Nat.blt d n=true)(he:Yo X fr ⟨some d,op,ty,p,af,g⟩ f args)(gr:Grow h h2)(hj:Yn X (.call f args h.size h) (.fin (.ret v) h2))
 (k:WX X n wm rd ops sf (m+1) h2 l (Tr.set fr d v) Q) (hh:ZT ⟨some d,op,ty,p,af,g⟩=false) (hM:okM ops sf m ⟨some d,op,ty,p,af,g⟩=true):WX X n wm rd ops sf m h (⟨some d,op,ty,p,af,g⟩::l) fr Q:=by
 refine⟨fun hb=>WE.cons (T:=fun _=>False) (xs0:=[]) (v:=v) (h2:=h2) [] [] none ?_ (fun _ z=>by simp at z) (fun _ z=>z.elim) (fun _ z=>z.elim) (fun hh q hq=>.inl (KL hM hh q hq)) (fun x j C z=>by cases z) (k.out fun q hq x hx=>Jx (hb q hq x hx) gr.size)⟩;refine⟨fun _=>⟨h2,rfl,(Zl7 hg (he h) Vb hj).mono fun i hi hm=>absurd hm.1 (Nat.not_le_of_lt hi),gr.size,fun i hi _=>gr.keep i hi,fun i hi q=>by rwa[gr.keep i hi]at q,fun i hi q=>by rwa[gr.keep i hi]at q⟩,fun _ z=>z.elim,fun d' e=>by cases e;rwa[G4]at hd,fun q=>Bool.noConfusion (hh.symm.trans q),fun _ z=>z.elim⟩
def WX.clR{Q:Fr->H->Prop}{op:Op}{f:V2}{args:V4 N}{K:N->U (Ast h.size)->Prop}(hg:ZY ops ⟨some d,op,ty,p,af,g⟩ fr)(hd:Nat.blt d n=true)(he:Yo X fr ⟨some d,op,ty,p,af,g⟩ f args)(_:wm<=h.size)
 (hc:WR X f args h.size h (CP K [] h)) (k:∀v h' G',K v G'->Sp h.size (QF ([]:U (Ast h.size))) h G' h'->WX X n wm rd ops sf (m+1) h' l (Tr.set fr d v) Q) (hh:ZT ⟨some d,op,ty,p,af,g⟩=false) (hM:okM ops sf m ⟨some d,op,ty,p,af,g⟩=true):
 WX X n wm rd ops sf m h (⟨some d,op,ty,p,af,g⟩::l) fr Q:=by
 obtain⟨e,h',⟨v,rfl,Gb,hk,hs⟩,hj⟩:=hc;exact WX.ZFH hg hd he ⟨hs.size,fun i hi=>hs.keep i hi fun⟨A,q,_⟩=>by simp at q⟩ hj (k v h' Gb hk hs) hh hM
def WO.cp{Q:XX->Fs->Prop}{op:Op}{f:V2}{args:V4 N}{v:N}(hg:ZY ops ⟨some d,op,ty,p,af,g⟩ fr)(hd:Nat.blt d n=true)(he:Yo X fr ⟨some d,op,ty,p,af,g⟩ f args)(hj:Pure X f args h v)(k:WO X n wm rd ops l ⟨Tr.set fr d v,ds,h,none⟩ Q):
 WO X n wm rd ops (⟨some d,op,ty,p,af,g⟩::l) ⟨fr,ds,h,none⟩ Q:=WO.en hg hd he (hj wm) k
def WX.cp{Q:Fr->H->Prop}{op:Op}{f:V2}{args:V4 N}{v:N}(hg:ZY ops ⟨some d,op,ty,p,af,g⟩ fr)(hd:Nat.blt d n=true)(he:Yo X fr ⟨some d,op,ty,p,af,g⟩ f args)(hj:Pure X f args h v)
 (k:WX X n wm rd ops sf (m+1) h l (Tr.set fr d v) Q) (hh:ZT ⟨some d,op,ty,p,af,g⟩=false) (hM:okM ops sf m ⟨some d,op,ty,p,af,g⟩=true):WX X n wm rd ops sf m h (⟨some d,op,ty,p,af,g⟩::l) fr Q:=WX.ZFH hg hd he (Grow.refl h) (hj _) k hh hM
def WO.gcp{Q:XX->Fs->Prop}{op:Op}{f:V2}{args:V4 N}{v:N}{c:Z}(hg:Zn ops ⟨some d,op,ty,p,af,g⟩ fr c)(hd:Nat.blt d n=true)(he:c=true->Yo X fr ⟨some d,op,ty,p,af,g⟩ f args)(hj:c=true->Pure X f args h v)(k:WO X n wm rd ops l ⟨Tr.set fr d (cond c v undef),ds,h,none⟩ Q):
 WO X n wm rd ops (⟨some d,op,ty,p,af,g⟩::l) ⟨fr,ds,h,none⟩ Q:=by
 cases c
 ·exact WO.ZmN hg rfl hd k
 ·exact WO.cp hg hd (he rfl) (hj rfl) k
def WX.gcp{Q:Fr->H->Prop}{op:Op}{f:V2}{args:V4 N}{v:N}{c:Z}(hg:Zn ops ⟨some d,op,ty,p,af,g⟩ fr c)(hd:Nat.blt d n=true)(he:c=true->Yo X fr ⟨some d,op,ty,p,af,g⟩ f args)(hj:c=true->Pure X f args h v)
 (k:WX X n wm rd ops sf (m+1) h l (Tr.set fr d (cond c v undef)) Q) (hh:ZT ⟨some d,op,ty,p,af,g⟩=false) (hM:okM ops sf m ⟨some d,op,ty,p,af,g⟩=true):WX X n wm rd ops sf m h (⟨some d,op,ty,p,af,g⟩::l) fr Q:=by
 cases c
 ·exact WX.off hg hd k hM
 ·exact WX.cp hg hd (he rfl) (hj rfl) k hh hM
def WO.inl{Q:XX->Fs->Prop}{op:Op}{f:V2}{args:V4 N}(hg:ZY ops ⟨some d,op,ty,p,af,g⟩ fr)(hd:Nat.blt d n=true)(he:Yo X fr ⟨some d,op,ty,p,af,g⟩ f args)
 (k:WR X f args wm h (fun v h'=>WO X n wm rd ops l ⟨Tr.set fr d v,ds,h',none⟩ Q)):WO X n wm rd ops (⟨some d,op,ty,p,af,g⟩::l) ⟨fr,ds,h,none⟩ Q:=by
 obtain⟨e,h',⟨v,rfl,hk⟩,hj⟩:=k;exact WO.en hg hd he hj hk
def ZFt{α:Type}{e:JY α}{a:O Addr}{nn c:Nat}{xs:U α}{h':H}(hS:Sp wm T h0 G h)(pk:Pk G (ow wm e a nn c xs) Gr)(u:Up wm (Uf a) h h')(s:Sl e wm h' a c xs):nn=xs.length/\Sp wm T h0 (Yi wm (YB e) (a,c) xs::Gr) h':=
 ⟨(hS.get pk).1,hS.one pk u (fun _ q=>q) s fun _ z=>z.elim⟩
def WO.fzn{Q:XX->Fs->Prop}{α:Type}{e:JY α}{a:O Addr}{nn c:Nat}{xs:U α}(hS:Sp wm T h0 G h)(pk:Pk G (ow wm e a nn c xs) Gr)(k:∀h',nn=xs.length/\Sp wm T h0 (Yi wm (YB e) (a,c) xs::Gr) h'->WO X n wm rd ops l ⟨fr,ds,h',none⟩ Q):WO X n wm rd ops l ⟨fr,ds,h,none⟩ Q:=
 WO.freeze (K1 wm) (hS.get pk).2 fun h' u s=>k h' (ZFt hS pk u s)
def WC.fzn{Q:XX->Fs->Prop}{cd:Code}{α:Type}{e:JY α}{a:O Addr}{nn c:Nat}{xs:U α}(hS:Sp wm T h0 G h)(pk:Pk G (ow wm e a nn c xs) Gr)(k:∀h',nn=xs.length/\Sp wm T h0 (Yi wm (YB e) (a,c) xs::Gr) h'->WC X n wm rd cd ⟨fr,ds,h',none⟩ Q):WC X n wm rd cd ⟨fr,ds,h,none⟩ Q:=
 WC.freeze (K1 wm) (hS.get pk).2 fun h' u s=>k h' (ZFt hS pk u s)
def Sp.Uo{α:Type}{e:JY α}{a:O Addr}{c:Nat}{xs:U α}(s:Sp wm T h0 G h)(pk:Pk G (Yi wm (YB e) (a,c) xs) Gr):Sl e wm h a c xs:=s.get pk
end
section
def k0{α:Type}{A:α}{G:U α}:Pk (A::G) A G:=.z
def k1{α:Type}{A b:α}{G:U α}:Pk (b::A::G) A (b::G):=.s k0
def k2{α:Type}{A b c:α}{G:U α}:Pk (b::c::A::G) A (b::c::G):=.s k1
def k3{α:Type}{A b c d:α}{G:U α}:Pk (b::c::d::A::G) A (b::c::d::G):=.s k2
def k4{α:Type}{A b c d e:α}{G:U α}:Pk (b::c::d::e::A::G) A (b::c::d::e::G):=.s k3
def k5{α:Type}{A b c d e f:α}{G:U α}:Pk (b::c::d::e::f::A::G) A (b::c::d::e::f::G):=.s k4
def k6{α:Type}{A b c d e f g:α}{G:U α}:Pk (b::c::d::e::f::g::A::G) A (b::c::d::e::f::g::G):=.s k5
def k7{α:Type}{A b c d e f g h:α}{G:U α}:Pk (b::c::d::e::f::g::h::A::G) A (b::c::d::e::f::g::h::G):=.s k6
def k8{α:Type}{A b c d e f g h i:α}{G:U α}:Pk (b::c::d::e::f::g::h::i::A::G) A (b::c::d::e::f::g::h::i::G):=.s k7
def k9{α:Type}{A b c d e f g h i j:α}{G:U α}:Pk (b::c::d::e::f::g::h::i::j::A::G) A (b::c::d::e::f::g::h::i::j::G):=.s k8
def k10{α:Type}{A b c d e f g h i j k:α}{G:U α}:Pk (b::c::d::e::f::g::h::i::j::k::A::G) A (b::c::d::e::f::g::h::i::j::k::G):=.s k9
def k11{α:Type}{A b c d e f g h i j k l:α}{G:U α}:Pk (b::c::d::e::f::g::h::i::j::k::l::A::G) A (b::c::d::e::f::g::h::i::j::k::l::G):=.s k10
def k12{α:Type}{A b c d e f g h i j k l m:α}{G:U α}:Pk (b::c::d::e::f::g::h::i::j::k::l::m::A::G) A (b::c::d::e::f::g::h::i::j::k::l::m::G):=.s k11
def k13{α:Type}{A b c d e f g h i j k l m n:α}{G:U α}:Pk (b::c::d::e::f::g::h::i::j::k::l::m::n::A::G) A (b::c::d::e::f::g::h::i::j::k::l::m::n::G):=.s k12
def k14{α:Type}{A b c d e f g h i j k l m n o:α}{G:U α}:Pk (b::c::d::e::f::g::h::i::j::k::l::m::n::o::A::G) A (b::c::d::e::f::g::h::i::j::k::l::m::n::o::G):=.s k13
def k15{α:Type}{A b c d e f g h i j k l m n o p:α}{G:U α}:Pk (b::c::d::e::f::g::h::i::j::k::l::m::n::o::p::A::G) A (b::c::d::e::f::g::h::i::j::k::l::m::n::o::p::G):=.s k14
def At.eqv{h h':H}{b o:Nat}{vs:U N}(e:h'.at b=h.at b)(a:At h b o vs):At h' b o vs:=by
 obtain⟨cs,own,z,h1,h2⟩:=a;exact⟨cs,own,z,by rw[e,h1],h2⟩
section
variable{wm:Nat}{G Ga Gr:U (Ast wm)}{h h0:H}{T:Nat->Prop}{A B:Ast wm}
def Sp.nil{α:Type}(s:Sp wm T h0 G h){e:JY α}:Sp wm T h0 (ow wm e none 0 0 ([]:U α)::G) h:=s.add ⟨rfl,UR.nil⟩ fun i=>Uf.none
def Sp.dj(s:Sp wm T h0 G h)(p:Sel G [A,B] Gr):∀x,A.fp x->¬ B.fp x:=fun x a b=>by
 have:=(s.Zbc p).dis;exact(GW.1 this).1 B (by simp) x a b
def Sp.ZbE{α:Type}{e:JY α}{a:O Addr}{c:Nat}{xs:U α}(s:Sp wm T h0 G h)(p:Pk G (Yi wm (YB e) (a,c) xs) Gr):Sl e h.size h a c xs:=(s.Uo p).up s.hw
def Sp.ms{κ ν:Type}{kv:κ->N}{vv:ν->N}{m:O Nat}{l:U (κ×ν)}(s:Sp wm T h0 G h)(f:Zld kv vv wm h0 m l):Zld kv vv wm h m l:=f.fz s.fz
end
section
variable{X:Ctx}{h:H}{ev:GZ->O N}{d:Nat}{ty:J}{p:String}{af:V4 Edge}{g:O (Nat×Z)}
def Yf{α:Type}{xs:U α}{v:α}{x y:GZ}{t e:J}{sz b o nn c:Nat}{a:O Addr}{k:Int}(hu:X.P.underlying t=some (.slice e))(hs:Yz X.P e=some sz)(hx:ev x=some (.slice a nn c))(hy:ev y=some (V8 k))(hn:nn=xs.length)(ha:a=some ⟨b,o,none⟩)(hk:ZN xs k=some v):
 Xt X h ev ⟨some d,.indexAddr t x y,ty,p,af,g⟩=some (.val (.pointer (some ⟨b,o+k.toNat*sz,none⟩)),.none):=by subst hn;exact ZNF hu hs hx hy ha hk
def ZsC{q x y:GZ}{b:Z}{v:N}(hc:ev q=some (.bool b))(hb:b=true)(hx:ev x=some v):Xt X h ev ⟨some d,.pick q x y,ty,p,af,g⟩=some (.val v,.none):=by
 subst hb;rw[ZfC,hc];dsimp only;rw[hx];rfl
def ZsD{q x y:GZ}{b:Z}{v:N}(hc:ev q=some (.bool b))(hb:b=false)(hy:ev y=some v):Xt X h ev ⟨some d,.pick q x y,ty,p,af,g⟩=some (.val v,.none):=by
 subst hb;rw[ZfC,hc];dsimp only;rw[hy];rfl
end
def WR.ZeE{X:Ctx}{f:V2}{args:V4 N}{h:H}{v:N}(hp:plain v=true)(k:WR X f args h.size h (CP (wm:=h.size) (fun v' Gb=>v'=v/\Gb=[]) [] h)):Pure X f args h v:=
 WF.ZKj hp (k.mono fun _ _ ⟨v',h1,_,h2,_⟩=>⟨v',h1,h2.1⟩)
end
section
variable{X:Ctx}{n wm:Nat}{rd:O Nat}{ops:V4 Oper}{fr:Fr}{h h1 h2 h0:H}{ty:J}{p:String}{af:V4 Edge}{g:O (Nat×Z)}{T:Nat->Prop}{G Gr Ga Gb:U (Ast wm)}{d:Nat}
section
variable{α:Type}{e:JY α}
end
end
section
variable{X:Ctx}{n wm:Nat}{rd:O Nat}{ops:V4 Oper}{fr:Fr}{h h1 h2 h0:H}{ty:J}{p:String}{af:V4 Edge}{g:O (Nat×Z)}{T:Nat->Prop}{G Gr Ga Gb:U (Ast wm)}{d:Nat}
structure Ne(α:Type) where
 sz:Nat
 pos:0<sz
 Par:Type
 dflt:Par
 sh:Par->α->List Value
 len:∀p x,(sh p x).length=sz
 one:∀p x,(sh p x).all Value.oneCell'=true
 YH:(wm:Nat)->Par->α->List (Ast wm)
section
variable{α:Type}{e:Ne α}
def upd{β:Type}(ps:Nat->β)(i:Nat)(p:β):Nat->β:=fun k=>if k=i then p else ps k
variable{a:O Addr}{nn c:Nat}{ps:Nat->e.Par}{xs:U α}
end
end
section
variable{X:Ctx}{n wm:Nat}{rd:O Nat}{ops:V4 Oper}{fr:Fr}{h h1 h2 h0:H}{ty:J}{p:String}{af:V4 Edge}{g:O (Nat×Z)}{T:Nat->Prop}{G Gr Ga Gb:U (Ast wm)}{d:Nat}
section
variable{α:Type}{e:Ne α}{a:O Addr}{nn c:Nat}{ps:Nat->e.Par}{xs:U α}
end
end
section
variable{X:Ctx}{n wm:Nat}{rd:O Nat}{ops:V4 Oper}{l:U Oper}{fr:Fr}{h h1 h2 h0:H}{ty:J}{p:String}{af:V4 Edge}{g:O (Nat×Z)}{T:Nat->Prop}{G Gr Ga Gb:U (Ast wm)}{d m:Nat}{sf:ST}
section
variable{α:Type}{e:JY α}
end
section
variable{α:Type}{e:Ne α}
end
structure ZD8{α:Type}(e:JY α)(a:Option Addr)(c:Nat)(xs:List α)(a':Option Addr)(c':Nat)(zs:List α):Prop where
 own:∀{wm:Nat}{h:H},UR e wm wm h a c xs->UR e wm wm h a' c' zs
 sl:∀{wm:Nat}{h:H},Sl e wm h a c xs->Sl e wm h a' c' zs
 base:∀i,Uf a' i->Uf a i
def ZwV{α:Type}{xs zs:U α}{lo hi:Int}(hz:slL xs lo hi=some zs):∃l k:Nat,lo=(l:Int)/\hi=(k:Int)/\l<=k/\k<=xs.length/\zs=(xs.take k).drop l:=by
 unfold slL at hz;by_cases h1:0<=lo
 ·rw[decide_eq_true h1,Gd]at hz;by_cases h2:lo<=hi
  ·rw[decide_eq_true h2,Gd]at hz;by_cases h3:hi<=xs.length
   ·rw[decide_eq_true h3]at hz;cases hz;exact⟨lo.toNat,hi.toNat,by omega,by omega,by omega,by omega,rfl⟩
   ·rw[decide_eq_false h3]at hz;cases hz
  ·rw[decide_eq_false h2]at hz;cases hz
 ·rw[decide_eq_false h1]at hz;cases hz
def Q7.piece{α:Type}{e:JY α}{cs:U N}{o:Nat}{xs:U α}{l k:Nat}(a:Q7 e wm h cs o xs)(hl:l<=k)(hk:k<=xs.length):Q7 e wm h cs (o+l*e.sz) ((xs.take k).drop l):=by
 have hlen:((xs.take k).drop l).length=k-l:=by rw[GG,Gu];omega
 refine⟨?_,fun j x hj=>?_⟩
 ·rw[hlen];have:=a.len;have h1:k*e.sz<=xs.length*e.sz:=GR _ hk;have h2:l*e.sz+(k-l)*e.sz=k*e.sz:=by rw[<-Nat.add_mul];congr 1;omega
  omega
 ·have hjl:j<k-l:=by have:=(Li0 hj).1;rwa[hlen]at this
  rw[List.getElem?_drop,List.getElem?_take_of_lt Va]at hj;obtain⟨q,g1,g2⟩:=a.get _ x hj;refine⟨q,?_,g2⟩;rw[<-g1,Nat.add_mul];congr 2;omega
def Zrc{α:Type}{e:JY α}{i o c:Nat}{xs:U α}{l k o' c':Nat}(hl:l<=k)(hk:k<=xs.length)(hc:(o'=o+l*e.sz/\c' / 2=c / 2-l)\/(o'=o/\c / 2=l/\c' / 2=0)):
 ZD8 e (some ⟨i,o,none⟩) c xs (some ⟨i,o',none⟩) c' ((xs.take k).drop l):=by
 have hlen:((xs.take k).drop l).length=k-l:=by rw[GG,Gu];omega
 refine⟨fun{wm h} s=>?_,fun{wm h} s=>?_,fun i' ⟨o2,e2⟩=>by cases e2;exact⟨o,rfl⟩⟩
 ·rcases s.mem with⟨q,_⟩|⟨i',o2,cs,q1,q2,q3,q4,q5,q6⟩
  ·cases q
  ·cases q1;have hmx:=s.max;refine⟨by rw[hlen];omega,.inr ⟨i,o',cs,rfl,q2,q3,?_,?_,?_⟩⟩
   ·rw[hlen];rcases hc with⟨_,z⟩|⟨_,z1,z2⟩
    ·rw[z];omega
    ·omega
   ·rcases hc with⟨z0,z⟩|⟨z0,z1,z2⟩
    ·rw[z,z0];have h2:l*e.sz+(c / 2-l)*e.sz=c / 2*e.sz:=by rw[<-Nat.add_mul];congr 1;omega
     omega
    ·rw[z2,z0,Nat.zero_mul];omega
   ·rcases hc with⟨z0,z⟩|⟨z0,z1,z2⟩
    ·rw[z0];exact q6.piece hl hk
    ·have he:(xs.take k).drop l=[]:=by apply Q4;rw[hlen];omega
     rw[he];exact Q7.nil Va
 ·have hmx:=s.max;refine⟨by rw[hlen];omega,?_,.inr (.inr ⟨i,o',rfl⟩),?_⟩
  ·have:=s.cap;rw[hlen];rcases hc with⟨_,z⟩|⟨_,z1,z2⟩<;>omega
  ·rcases s.mem with q|⟨i',o2,cs,own,z,q1,q2,q3,q4⟩
   ·left;subst q;simp
   ·cases q1;by_cases hz:k-l=0
    ·left;apply Q4;rw[hlen];exact hz
    ·right;refine⟨i,o',cs,own,z,rfl,q2,q3,?_⟩;rcases hc with⟨z0,z⟩|⟨z0,z1,z2⟩
     ·rw[z0];exact q4.piece hl hk
     ·have:=s.cap;omega
def ZBM{α:Type}{e:JY α}{a:O Addr}{xs:U α}{l k:Nat}(hx:xs=[]):ZD8 e a 0 xs a 0 ((xs.take k).drop l):=by
 subst hx;have:(([]:U α).take k).drop l=[]:=by simp
 rw[this];exact⟨fun s=>s,fun s=>s,fun i f=>f⟩
def ZIU{α:Type}{e:JY α}{t el:J}{x:GZ}{lo hi:O GZ}{a:O Addr}{nn c:Nat}{xs zs:U α}{a1 a2:Int}(so:UR e wm wm h a c xs)(hn:nn=xs.length)(hu:X.P.underlying t=some (.slice el))(hs:Yz X.P el=some e.sz)(hx:YG fr x=some (.slice a nn c))
 (hlo:evo (YG fr) lo=some none/\a1=0\/∃k,evo (YG fr) lo=some (some (.int k a1))) (hhi:evo (YG fr) hi=some none/\a2=xs.length\/∃k,evo (YG fr) hi=some (some (.int k a2))) (hz:slL xs a1 a2=some zs):
 ∃a' c',Xt X h (YG fr) ⟨some d,.slice t x lo hi none,ty,p,af,g⟩=some (.val (.slice a' zs.length c'),.none)/\ZD8 e a c xs a' c' zs:=by
 obtain⟨l,k,rfl,rfl,hlk,hkx,rfl⟩:=ZwV hz;subst hn;have hlen:((xs.take k).drop l).length=k-l:=by rw[GG,Gu];omega
 obtain⟨vlo,el1,el2⟩:∃vlo,evo (YG fr) lo=some vlo/\obN vlo 0=some l:=by
  rcases hlo with⟨z,z2⟩|⟨kk,z⟩
  ·exact⟨none,z,by have:l=0:=Va
                   subst this;rfl⟩
  ·exact⟨_,z,rfl⟩
 obtain⟨vhi,eh1,eh2⟩:∃vhi,evo (YG fr) hi=some vhi/\obN vhi xs.length=some k:=by
  rcases hhi with⟨z,z2⟩|⟨kk,z⟩
  ·exact⟨none,z,by have:k=xs.length:=Va
                   subst this;rfl⟩
  ·exact⟨_,z,rfl⟩
 have key:∀v,aslice X.P h t (.slice a xs.length c) vlo vhi none=some v->Xt X h (YG fr) ⟨some d,.slice t x lo hi none,ty,p,af,g⟩=some (.val v,.none):=fun v hv=>by
  show(match YG fr x,evo (YG fr) lo,evo (YG fr) hi,evo (YG fr) none with
   | some x,some lo,some hi,some mx=>bif plain x&&not (ZxX x) then(match lo,hi,mx with
      | lo,hi,mx=>bif QM (lo.toList++hi.toList++mx.toList) then pN (KJ X.P (Instr.sliceAt t x lo hi mx)) else none)
     else vN (aslice X.P h t x lo hi mx)
   | _,_,_,_=>none)=_
  rw[hx,el1,eh1];show(bif plain (.slice a xs.length c)&&not (ZxX (.slice a xs.length c)) then _ else vN (aslice X.P h t (.slice a xs.length c) vlo vhi none))=_;have:ZxX (.slice a xs.length c)=true:=rfl;rw[this,KK,Bool.and_false,Cq0,hv];rfl
 rcases so.mem with⟨rfl,rfl,rfl⟩|⟨i,o,cs,rfl,q2,q3,q4,q5,q6⟩
 ·have hk0:k=0:=by simpa using hkx
  have hl0:l=0:=Va
  subst hk0 hl0;refine⟨none,0,key _ ?_,ZBM rfl⟩;have ZQS:obN vhi 0=some 0:=eh2
  have:aslice X.P h t (V7) vlo vhi none=some (V7):=by
   unfold aslice;simp only[hu,hs,el2,ZQS]
  exact this
 ·have hmain:∀v,(bif Nat.ble l k&&Nat.ble k (c / 2) then
   bif Nat.beq (c % 2) 0 then some (Value.slice (some ⟨i,bif Nat.beq (c / 2) l then o else o+l*e.sz,none⟩) (k-l) (2*(c / 2-l)))
   else bif Nat.beq l 0 then some (.slice (some ⟨i,o,none⟩) k c)
   else match h.at i with
    | .row _ true s=>bif Nat.beq s e.sz&&Nat.ble 1 e.sz then some (.slice (some ⟨i,o+l*e.sz,none⟩) (k-l) (2*(c / 2-l)+1)) else none
    | _=>none
   else none)=some v->aslice X.P h t (.slice (some ⟨i,o,none⟩) xs.length c) vlo vhi none=some v:=fun v hv=>by
   unfold aslice;simp only[hu,hs,el2,eh2];exact hv
  have b1:(Nat.ble l k&&Nat.ble k (c / 2))=true:=by rw[Nm0 hlk,Nm0 (KB hkx q4)];rfl
  rw[b1]at hmain;simp only[Cq1]at hmain;cases hev:Nat.beq (c % 2) 0 with
  | true=>
    rw[hev]at hmain;simp only[Cq1]at hmain;refine⟨_,_,key _ (by rw[hlen];exact hmain _ rfl),Zrc hlk hkx ?_⟩;cases hcl:Nat.beq (c / 2) l with
    | true=>right;have:=Nb0 hcl;exact⟨rfl,this,by omega⟩
    | false=>left;exact⟨rfl,by omega⟩
  | false=>
    rw[hev]at hmain;simp only[Cq0]at hmain;cases hl0:Nat.beq l 0 with
    | true=>
      have:=Nb0 hl0;subst this;rw[hl0]at hmain;simp only[Cq1]at hmain;exact⟨_,_,key _ (by rw[hlen];exact hmain _ rfl),Zrc hlk hkx (.inl ⟨by omega,by omega⟩)⟩
    | false=>
      rw[hl0,q3]at hmain;simp only[Cq0]at hmain;have b2:(Nat.beq e.sz e.sz&&Nat.ble 1 e.sz)=true:=by rw[Nat.beq_refl,Nm0 (show 1<=e.sz from e.pos)];rfl
      rw[b2]at hmain;exact⟨_,_,key _ (by rw[hlen];exact hmain _ rfl),Zrc hlk hkx (.inl ⟨rfl,by omega⟩)⟩
end
section
variable{X:Ctx}{n wm:Nat}{rd:O Nat}{ops:V4 Oper}{l:U Oper}{fr:Fr}{ds:U V6}{h h1 h2 h0:H}{ty:J}{p:String}{af:V4 Edge}{g:O (Nat×Z)}{T:Nat->Prop}{G Gr Ga Gb:U (Ast wm)}{d m:Nat}{sf:ST}
section
variable{α:Type}{e:JY α}{a a1:O Addr}{nn c n1 c1:Nat}{ps:Nat->O Addr×Nat×Nat}{xs:U (U α)}
def ZzX{ev:GZ->O N}{x:GZ}{v:N}(hx:ev x=some v):evo ev (some x)=some (some v):=by
 show(match ev x with|some v=>some (some v) | none=>none)=_;rw[hx]
end
section
variable{κ ν:Type}[DecidableEq κ]{kt vt:J}{kv:κ->N}{vv:ν->N}{i:Nat}{ll:U (κ×ν)}{Q:Fr->H->Prop}
end
def ZQQ{f:V2}:YG fr (.func f)=some (.func (.func f) #[] #[]):=ZqL fr f
end
section
variable{X:Ctx}{h:H}{ev:GZ->O N}{d:O Tmp}{ty:J}{p:String}{af:V4 Edge}{g:O (Nat×Z)}{P:V0}
def ZIV{x y:GZ}{ts:V4 J}{k:IntKind}{a b:Int}(hx:ev x=some (.int k a))(hy:ev y=some (.int k b)):Xt X h ev ⟨d,.call {callee:=.builtin .max,args:=#[x,y],argTypes:=ts},ty,p,af,g⟩=some (.val (.int k (if b>a then b else a)),.none):=by
 have hev:evs ev (#[x,y]:V4 GZ).toList=some [.int k a,.int k b]:=Zb hx (Zb hy Zd);rw[Wx,hev];show(bif QM [.int k a,.int k b] then pN (KJ X.P (Builtin.max_ ts ty #[.int k a,.int k b])) else none)=_;have:Builtin.max_ ts ty #[.int k a,.int k b]=pure (.int k (if b>a then b else a)):=rfl;rw[this];rfl
end
section
variable{X:Ctx}{n wm:Nat}{rd:O Nat}{ops:V4 Oper}{ol:U Oper}{fr:Fr}{ds:U V6}{h h0:H}{ty:J}{p:String}{af:V4 Edge}{g:O (Nat×Z)}{T:Nat->Prop}{G Gr:U (Ast wm)}{d l df:Nat}{LO:YS}{ps:V4 Tmp}{YH bd:Code}
def bsy:YS->YS
 | .loop _ pd fr n ps YH bd df=>.loop .busy pd fr n ps YH bd df
 | A=>A
structure RgE(wm l:Nat)(fr:Fr)(n:Nat)(ps:Array Tmp)(YH bd:Code)(df:Nat)(ds:List Deferred)(Q:XX->Fs->Prop)(h:H):Prop where
 at_:h.at l=.loop .ready none fr n ps YH bd df
 low:wm<=l
 k:∀h',Up wm (fun i=>i=l) h h'->Q .normal ⟨fr,⟨.collected df,#[]⟩::ds,h',none⟩
def RgE.sp{Q:XX->Fs->Prop}(hLO:LO=.loop .ready none fr n ps YH bd df)(hS:Sp wm T h0 G h)(pk:Pk G (ob wm l LO) Gr)(k:∀h',Sp wm T h0 Gr h'->Q .normal ⟨fr,⟨.collected df,#[]⟩::ds,h',none⟩):RgE wm l fr n ps YH bd df ds Q h:=by
 obtain⟨h1,h2,h3⟩:=hS.get pk;refine⟨h1.trans hLO,h2,fun h' u=>k h' ?_⟩;exact Sp.step (Ga:=[ob wm l LO]) (Gb:=[]) (hS.perm pk.perm) u (fun i e=>⟨_,G7.2 rfl,e⟩) Yp.nil fun i ⟨A,m,f⟩=>by simp at m
def ZiD{A:YS}(hA:A.own=true)(s:Sp wm T h0 Gr h):Sp wm T h0 (ob wm h.size A::Gr) (h.push A):=
 Sp.new s (Up.push wm h A) ⟨QU h A,s.hw,hA⟩ fun i e=>by have:i=h.size:=e;omega
def WC.Zxa{Q:XX->Fs->Prop}{gg:GZ}{f:V2}{first cap:U N}(hS:Sp wm T h0 G h)(hg:YG fr gg=some (.func (.func f) first.toArray cap.toArray))(hf:(X.fns.get f).isSome=true)
 (k:∀h' l df LO,LO=YS.loop .ready none fr n ps YH bd df->Sp wm T h0 (ob wm l LO::ob wm df .deferred::G) h'->WR X f (first++([Value.func (.yield l) #[] #[]]++cap)).toArray wm h' (fun _ h2=>RgE wm l fr n ps YH bd df ds Q h2)):
 WC X n wm none (.rangeFunc gg ps YH bd) ⟨fr,ds,h,none⟩ Q:=by
 have s1:Sp wm T h0 (ob wm h.size .deferred::G) (h.push .deferred):=ZiD rfl hS
 have s2:Sp wm T h0 (ob wm (h.size+1) (.loop .ready none fr n ps YH bd h.size)::ob wm h.size .deferred::G) ((h.push .deferred).push (.loop .ready none fr n ps YH bd h.size)):=by
  have:=ZiD (A:=.loop .ready none fr n ps YH bd h.size) rfl s1
  rwa[H.size_push]at this
 obtain⟨fn,hf⟩:=GT.1 hf;obtain⟨e,h3,⟨v,rfl,hr⟩,hj⟩:=k _ _ _ _ rfl s2;have hat:=hr.at_;refine⟨.normal,_,hr.k (h3.put (h.size+1) (.loop .exhausted none fr n ps YH bd h.size)) (Up.put hr.low (by rw[hat];rfl)),?_⟩;refine Y9.2 (J9 (C:=cfg X fun _=>false) (ih:=JD (.call f _ wm _) (.fin (.ret v) h3)) (Xh hj) ?_);show Ql (cfg X fun _=>false) _ gg n wm none (h.size+1) ⟨fr,⟨.collected h.size,#[]⟩::ds,(h.push .deferred).push (.loop .ready none fr n ps YH bd h.size),none⟩=_;unfold Ql;dsimp only;rw[hg]
 have hac:U5 (cfg X fun _=>false).X ((h.push .deferred).push (.loop .ready none fr n ps YH bd h.size)) (.func (.func f) first.toArray cap.toArray) [Value.func (.yield (h.size+1)) #[] #[]]=some (.enter f (first++([Value.func (.yield (h.size+1)) #[] #[]]++cap)).toArray,.none):=by
  unfold U5;have:(cfg X fun _=>false).X.fns.get f=some fn:=hf;dsimp only;rw[this];simp only[Gf]
 dsimp only;rw[hac];dsimp only;unfold J8;rw[Xi];dsimp only;rw[hat]
 rfl
def WR.ZKx{f:V2}{args:V4 N}{K:N->H->Prop}{α β:Type}{r:β}(I:α->N->H->Prop)(j:α->O β)(k:∀x v h',j x=some r->I x v h'->K v h')(hc:WR X f args wm h (fun v h'=>∃x,j x=some r/\I x v h')):WR X f args wm h K:=
 hc.mono fun _ h' ⟨v,e,x,h1,h2⟩=>⟨v,e,k x v h' h1 h2⟩
def AsK.sp{Jd:Fr}{R:H->Prop}(hLO:LO=.loop .ready none fr n ps YH bd df)(hS:Sp wm T h0 G h)(pk:Pk G (ob wm l LO) Gr)(k:∀h1,Sp wm T h0 (ob wm l (bsy LO)::Gr) h1->WC X n wm (some l) bd ⟨Jd,ds,h1,none⟩ (BdK n wm l fr ps YH bd df R)):AsK X n wm wm l fr ps YH bd df R .normal ⟨Jd,ds,h,none⟩:=by
 obtain⟨h1,h2,h3⟩:=hS.get pk;refine AsK.mk' (h1.trans hLO) fun h' u e=>k h' ?_
 exact hS.one pk (u h2) (fun _ q=>q) ⟨by rw[e,hLO];rfl,h2,by rw[hLO];rfl⟩ fun _ q=>.inl q
def BdK.sp{Jd:Fr}{R:H->Prop}(hLO:LO=.loop .ready none fr n ps YH bd df)(hS:Sp wm T h0 G h)(pk:Pk G (ob wm l (bsy LO)) Gr)(k:∀h1,Sp wm T h0 (ob wm l LO::Gr) h1->R h1):BdK n wm l fr ps YH bd df R .normal ⟨Jd,ds,h,none⟩:=by
 obtain⟨h1,h2,h3⟩:=hS.get pk;refine BdK.mk' (h1.trans (by rw[hLO];rfl)) fun h' u e=>k h' ?_
 exact hS.one pk (u h2) (fun _ q=>q) ⟨by rw[e,hLO],h2,by rw[hLO];rfl⟩ fun _ q=>.inl q
def WO.ZJS{Q:XX->Fs->Prop}{fo:GZ}{xs:V4 GZ}{ts:V4 J}{vs:U N}{n2:Nat}{Jd fr1:Fr}{as2 bd2:Code}(hg:ZY ops ⟨some d,.call {callee:=.value fo,args:=xs,argTypes:=ts},ty,p,af,g⟩ fr)(hd:Nat.blt d n=true)(hf:YG fr fo=some (.func (.yield l) #[] #[]))(hx:evs (YG fr) xs.toList=some vs)
 (hS:Sp wm T h0 G h) (pk:Pk G (ob wm l LO) Gr) (hLO:LO=.loop .ready none Jd n2 ps as2 bd2 df) (hl:Nat.beq vs.length ps.toList.length=true) (hs:Qs (ps.toList.zip vs) n2 Jd=some fr1)
 (k:WC X n2 wm (some l) as2 ⟨fr1,[],h,none⟩ (AsK X n2 wm wm l Jd ps as2 bd2 df (fun h'=>WO X n wm rd ops ol ⟨Tr.set fr d (.bool true),ds,h',none⟩ Q))):
 WO X n wm rd ops (⟨some d,.call {callee:=.value fo,args:=xs,argTypes:=ts},ty,p,af,g⟩::ol) ⟨fr,ds,h,none⟩ Q:=by
 obtain⟨h1,h2,h3⟩:=hS.get pk;have hat:=h1.trans hLO;refine WO.yld hg hd hf hx hat (Nb0 hl) (ZA3.mk' (lo:=wm) hat h2 hl hs k) fun b h' ⟨e,hk⟩=>?_
 rw[e];exact hk
def Z0.Zhi{fn:Func}{R:UW->H->Prop}(hS:Sp wm T h0 G h)(pk:Pk G (ob wm df .deferred) Gr)(k:∀h',Sp wm T h0 Gr h'->Z0 X fn wm R .ret ⟨fr,ds,h',none⟩):Z0 X fn wm R .ret ⟨fr,⟨.collected df,#[]⟩::ds,h,none⟩:=by
 obtain⟨h1,h2,h3⟩:=hS.get pk;refine Z0.col wm h2 h1 h2 fun h' u=>k h' ?_
 exact Sp.step (Ga:=[ob wm df .deferred]) (Gb:=[]) (hS.perm pk.perm) u (fun i e=>⟨_,G7.2 rfl,e⟩) Yp.nil fun i ⟨A,m,f⟩=>by simp at m
end
section
variable{X:Ctx}{n wm:Nat}{rd:O Nat}{ops:V4 Oper}{l:U Oper}{fr:Fr}{ds:U V6}{h h1 h2 h0:H}{ty:J}{p:String}{af:V4 Edge}{g:O (Nat×Z)}{m:Nat}{T:Nat->Prop}{G Gr Ga Gb:U (Ast wm)}{d:Nat}{sf:ST}
def HW(X:Ctx)(wm:Nat)(o:Oper)(fr:Fr)(h:H)(K:H->Prop):Prop:=∃v E h1,Xt X h (YG fr) o=some (.val v,E)/\E.apply wm h=some h1/\K h1
section
variable{α:Type}{e:JY α}{t el:J}{x:GZ}{a:O Addr}{nn c:Nat}{xs zs ws us:U α}{a1 a2 a3:Int}
end
section
variable{κ ν:Type}[DecidableEq κ]{kt vt:J}{kv:κ->N}{vv:ν->N}{i:Nat}{ll:U (κ×ν)}
end
end
section
variable{X:Ctx}{n wm:Nat}{rd:O Nat}{ops:V4 Oper}{l:U Oper}{fr:Fr}{ds:U V6}{h h1 h2 h0:H}{ty:J}{p:String}{af:V4 Edge}{g:O (Nat×Z)}{m:Nat}{T:Nat->Prop}{G Gr Ga Gb:U (Ast wm)}{d:Nat}{sf:ST}
def HE(X:Ctx)(o:Oper)(fr:Fr)(h:H)(K:N->Prop):Prop:=∃v,Xt X h (YG fr) o=some (.val v,.none)/\K v
def WX.he{Q:Fr->H->Prop}{op:Op}{K:N->Prop}(hg:ZY ops ⟨some d,op,ty,p,af,g⟩ fr)(hd:Nat.blt d n=true)(s:HE X ⟨some d,op,ty,p,af,g⟩ fr h K)(k:∀v,K v->WX X n wm rd ops sf (m+1) h l (Tr.set fr d v) Q)(hM:okM ops sf m ⟨some d,op,ty,p,af,g⟩=true):
 WX X n wm rd ops sf m h (⟨some d,op,ty,p,af,g⟩::l) fr Q:=let⟨v,ha,hk⟩:=s;WX.w hg hd ha (k v hk) hM
section
variable{α:Type}{e:JY α}{t el:J}{x:GZ}{a:O Addr}{nn c:Nat}{xs zs ws us:U α}{a1 a2 a3:Int}
def ZKc{lo hi:O GZ}(so:UR e wm wm h a c xs)(hn:nn=xs.length)(hu:X.P.underlying t=some (.slice el))(hs:Yz X.P el=some e.sz)(hx:YG fr x=some (.slice a nn c))
 (hlo:evo (YG fr) lo=some none/\a1=0\/∃k,evo (YG fr) lo=some (some (.int k a1))) (hhi:evo (YG fr) hi=some none/\a2=xs.length\/∃k,evo (YG fr) hi=some (some (.int k a2))) (hz:slL xs a1 a2=some zs):
 HE X ⟨some d,.slice t x lo hi none,ty,p,af,g⟩ fr h (fun v=>∃a' c',v=.slice a' zs.length c'/\ZD8 e a c xs a' c' zs):=
 let⟨a',c',h1,h2⟩:=ZIU (d:=d) (ty:=ty) (p:=p) (af:=af) (g:=g) so hn hu hs hx hlo hhi hz;⟨_,h1,a',c',rfl,h2⟩
end
end
section
variable{X:Ctx}{n wm UC:Nat}{fr:Fr}{h:H}{ty:J}{p:String}{af:V4 Edge}{g:O (Nat×Z)}{d:Nat}
section
variable{α:Type}{e:JY α}{t el:J}{x:GZ}{a:O Addr}{nn c:Nat}{xs zs:U α}{a2:Int}
end
end
section
variable{X:Ctx}{n wm:Nat}{rd:O Nat}{ops:V4 Oper}{l:U Oper}{fr:Fr}{ds:U V6}{h h1 h2 h0:H}{ty:J}{p:String}{af:V4 Edge}{g:O (Nat×Z)}{T:Nat->Prop}{G Gr Ga Gb:U (Ast wm)}{d:Nat}
def Yw{α β:Type}{y:α}{p:Int->O β}{k:α->O β}{r:β}(h:JS (.ok y) p k=some r):k y=some r:=h
def Z7{α β:Type}{e:Int}{p:Int->O β}{k:α->O β}{r:β}(h:JS (.Z9 e) p k=some r):p e=some r:=h
def pv(t:J)(k:Int):N:=.iface t (bif Nat.beq t 147 then .agg #[V8 k] else V8 k)
def PQ{β:Type}{wm:Nat}(t:J)(K:β->N->U (Ast wm)->Prop)(Ga:U (Ast wm))(h:H)(r:PR β):UW->H->Prop:=fun e h'=>match r with
 | .ok b=>∃v,e=.ret v/\CP (K b) Ga h v h'
 | .Z9 k=>e=.Z9 (pv t k)/\Sp wm (QF Ga) h [] h'
section
variable{β:Type}{t:J}{K:β->N->U (Ast wm)->Prop}{f:V2}{args:V4 N}
def PQ.ok{b:β}(k:WF X f args wm h (PQ t K Ga h (.ok b))):WR X f args wm h (CP (K b) Ga h):=k
def PQ.Z9{k:Int}(w:WF X f args wm h (PQ t K Ga h (.Z9 k))):∃h',Sp wm (QF Ga) h [] h'/\Yn X (.call f args wm h) (.fin (.Z9 (pv t k)) h'):=
 let⟨_,h',hq,hj⟩:=w;⟨h',hq.2,by have:=hq.1;subst this;exact hj⟩
def WO.Kg{Q:XX->Fs->Prop}{op:Op}{k:Int}(hg:ZY ops ⟨some d,op,ty,p,af,g⟩ fr)(he:Yo X fr ⟨some d,op,ty,p,af,g⟩ f args)(hS:Sp wm T h0 G h)(pk:Sel G Ga Gr)
 (hc:∀g':H,g'.size=h.size->Fz wm h g'->Yp Ga g'->WF X f args wm g' (PQ t K Ga g' (.Z9 k))) (kk:∀h',Sp wm T h0 Gr h'->Q (.panic (pv t k)) ⟨fr,ds,h',none⟩):
 WO X n wm rd ops (⟨some d,op,ty,p,af,g⟩::l) ⟨fr,ds,h,none⟩ Q:=by
 obtain⟨h',hs,hj⟩:=PQ.Z9 (hc h rfl (Fz.refl _ _) (hS.Zbc pk));exact WO.Zkd hg (he h) rfl hj (kk h' (hS.call pk hs))
def Z0.WV{fn:Func}{rs:U ResultVar}{vs:U N}{v:N}{b:β}{h0:H}(hr:fn.results.toList=rs)(hv:Zcw X.P fr h rs=some vs)(hl:(match vs with | [v]=>v|vs=>.tuple vs.toArray)=v)(k:CP (K b) Ga h0 v h):Z0 X fn wm (PQ t K Ga h0 (.ok b)) .ret ⟨fr,[],h,none⟩:=
 Z0.gen (R:=fun v h'=>CP (K b) Ga h0 v h') hr hv hl k
end
def Y7(X:Ctx)(fn:Func)(wm:Nat)(Q:UW->H->Prop)(pm:PM)(s:Fs):Prop:=∃E h',Q E h'/\Yn X (.leave fn wm pm s) (.fin E h')
section
variable{fn:Func}{R:UW->H->Prop}{s:Fs}{v:N}{pm:PM}
def Z0.ofP(k:Y7 X fn wm R .ret s):Z0 X fn wm R .ret s:=let⟨E,h',h1,h2⟩:=k;⟨⟨.ret,E,h',rfl,h1,h2⟩⟩
def Z0.KU(k:Y7 X fn wm R (.Z9 v) s):Z0 X fn wm R (.panic v) s:=let⟨E,h',h1,h2⟩:=k;⟨⟨.Z9 v,E,h',rfl,h1,h2⟩⟩
def Y7.ofL(k:Z0 X fn wm R .ret s)(hp:pm=.ret):Y7 X fn wm R pm s:=by
 obtain⟨Km,E,h',e,h1,h2⟩:=k.out;cases e;subst hp;exact⟨E,h',h1,h2⟩
def Y7.Z9(k:R (.Z9 v) h):Y7 X fn wm R (.Z9 v) ⟨fr,[],h,none⟩:=by
 refine⟨.Z9 v,h,k,Jf (C:=cfg X fun _=>false) (ih:=fun _=>none) (fun _ _ h=>by cases h) ?_⟩;unfold Uj
 rfl
def DC(X:Ctx)(n wm:Nat)(c:Code)(pm:PM)(s:Fs)(Q:XX->PM->Fs->Prop):Prop:=∃e Km s',Q e Km s'/\Yn X (.Xo c n wm pm s) (.Xo e Km s')
structure DSq(X:Ctx)(n wm:Nat)(b:Code)(Q:XX->PM->Fs->Prop)(e:XX)(pm:PM)(s:Fs):Prop where
 Yc:e=.normal
 k:DC X n wm b pm s Q
def DC.seq{a b:Code}{Q:XX->PM->Fs->Prop}(k:DC X n wm a pm s (DSq X n wm b Q)):DC X n wm (.seq a b) pm s Q:=by
 obtain⟨e,pm1,s1,⟨rfl,e2,pm2,s2,hq,j2⟩,j1⟩:=k;obtain⟨_,_,_,q1,ka⟩:=X9.1 j1;cases q1;obtain⟨_,_,_,q2,kb⟩:=X9.1 j2;cases q2;refine⟨_,_,_,hq,X9.2 ⟨_,_,_,rfl,fun ρ a c0 cs w Zy hi hpm=>wpSIn_seq (QW (ka ρ a c0 cs w Zy hi hpm) ?_)⟩⟩;rintro e' a' cs' w' ⟨ρ',u',rfl,hp',he,hi',hst⟩;cases he;refine QW (kb ρ' a' {c0 with mode:=u'} cs w' (KB Zy hst.size) hi' hp') ?_;rintro e3 a3 cs3 w3 ⟨ρ3,u3,rfl,q1,q2,q3,q4⟩;exact⟨ρ3,u3,rfl,q1,q2,q3,hst.trans hi.rel.lt q4⟩
def DC.rgn{id:Nat}{ops:V4 Oper}{dr:Z}{Q:XX->PM->Fs->Prop}(hn:(!dr&&ops.toList.any isRecover)=false)(k:WC X n wm none (.region id ops dr) s (fun e s'=>Q e pm s')):DC X n wm (.region id ops dr) pm s Q:=by
 obtain⟨e,s',hq,j⟩:=k;refine⟨e,pm,s',hq,X9.2 (Jg (C:=cfg X fun _=>false) (ih:=JD (.code (.region id ops dr) n wm none s) (.code e s')) (Xh (Y9.2 ⟨_,_,rfl,j⟩)) ?_)⟩;unfold Kr;dsimp only;rw[hn];unfold ZaN;rw[Xi];rfl
def DC.skip{Q:XX->PM->Fs->Prop}(k:Q .normal pm s):DC X n wm .skip pm s Q:=by
 obtain⟨e,s',hq,j⟩:WC X n wm none .skip s (fun e s'=>Q e pm s'):=WC.skip k;refine⟨e,pm,s',hq,X9.2 (Jg (C:=cfg X fun _=>false) (ih:=JD (.code .skip n wm none s) (.code e s')) (Xh (Y9.2 ⟨_,_,rfl,j⟩)) ?_)⟩;unfold Kr ZaN;dsimp only;rw[Xi];rfl
def DC.ZAd{c:GZ}{a b:Code}{t:Z}{Q:XX->PM->Fs->Prop}{fr:Fr}(hc:YG fr c=some (.bool t))(ht:t=true)(k:DC X n wm a pm ⟨fr,ds,h,none⟩ Q):DC X n wm (.cond c a b) pm ⟨fr,ds,h,none⟩ Q:=by
 subst ht;obtain⟨e,Km,s',hq,j⟩:=k;refine⟨e,Km,s',hq,X9.2 (Jg (C:=cfg X fun _=>false) (ih:=JD (.Xo a n wm pm ⟨fr,ds,h,none⟩) (.Xo e Km s')) (Xh j) ?_)⟩;unfold Kr;dsimp only;rw[hc];exact Xi _ _
def DC.Zue{c:GZ}{a b:Code}{t:Z}{Q:XX->PM->Fs->Prop}{fr:Fr}(hc:YG fr c=some (.bool t))(ht:t=false)(k:DC X n wm b pm ⟨fr,ds,h,none⟩ Q):DC X n wm (.cond c a b) pm ⟨fr,ds,h,none⟩ Q:=by
 subst ht;obtain⟨e,Km,s',hq,j⟩:=k;refine⟨e,Km,s',hq,X9.2 (Jg (C:=cfg X fun _=>false) (ih:=JD (.Xo b n wm pm ⟨fr,ds,h,none⟩) (.Xo e Km s')) (Xh j) ?_)⟩;unfold Kr;dsimp only;rw[hc];exact Xi _ _
def DC.rec{id:Nat}{ops:V4 Oper}{Q:XX->PM->Fs->Prop}(Km:PM)(fr':Fr)(hd:Zqi X n wm ops.toList ops.toList pm ⟨fr,ds,h,none⟩=some (Km,⟨fr',ds,h,none⟩))(hn:ops.toList.any isRecover=true)(k:Q .normal Km ⟨fr',ds,h,none⟩):DC X n wm (.region id ops false) pm ⟨fr,ds,h,none⟩ Q:=by
 refine⟨.normal,Km,_,k,X9.2 (Jg (C:=cfg X fun _=>false) (ih:=fun _=>none) (fun _ _ h=>by cases h) ?_)⟩;unfold Kr;dsimp only;rw[hn];have hd':Zqi (cfg X fun _=>false).X n wm ops.toList ops.toList pm ⟨fr,ds,h,none⟩=some (Km,⟨fr',ds,h,none⟩):=hd;rw[hd'];rfl
structure DEn(X:Ctx)(fn:Func)(wm:Nat)(R:UW->H->Prop)(fr:Fr)(ds:List Deferred)(e:XX)(pm:PM)(s:Fs):Prop where
 Yc:e=.normal
 no:s.ds=[]
 k:Y7 X fn wm R (Zhq pm) ⟨fr,ds,s.h,none⟩
end
section
def WO.pnc{Q:XX->Fs->Prop}{x:GZ}{t:J}{v:N}(hg:ZY ops ⟨none,.panic x,ty,p,af,g⟩ fr)(hx:YG fr x=some (.iface t v))(k:Q (.panic (.iface t v)) ⟨fr,ds,h,none⟩):WO X n wm rd ops (⟨none,.panic x,ty,p,af,g⟩::l) ⟨fr,ds,h,none⟩ Q:=by
 refine WO.panic (E:=.none) (h1:=h) hg ?_ rfl k
 show(match YG fr x with
  | some (.iface t v)=>some (AN.panic (.iface t v),Eff.none)
  | _=>none)=_
 rw[hx]
def Zej{x:GZ}{t:J}{v:N}(hx:YG fr x=some v)(ht:(match X.P.underlying t with|some (.interface _)=>false|some _=>true|none=>false)=true):Xt X h (YG fr) ⟨some d,.makeInterface t x,ty,p,af,g⟩=some (.val (.iface t v),.none):=by
 show(match YG fr x,X.P.underlying t with
  | some _,some (.interface _)=>none
  | some v,some _=>some (AN.val (.iface t v),Eff.none)
  | _,_=>none)=_
 rw[hx];cases hh:X.P.underlying t with
 | none=>rw[hh]at ht;cases ht
 | some u=>
   rw[hh]at ht;cases u
   case interface=>cases ht
   all_goals rfl
end
end
section
variable{X:Ctx}{n wm:Nat}{rd:O Nat}{ops:V4 Oper}{l:U Oper}{rest:Code}
def WO.body{s:Fs}{Q:XX->Fs->Prop}(k:WO X n wm rd ops l s (ZB X n wm rd rest Q)):∃e s',Q e s'/\∀{ρ:Ren}{F:Fence}{a:Act}{w:V3},Inv ρ n s a w->wm<=s.h.size->FR' ρ rd F->∀Q':Exit->Act->V3->Prop,(∀e' a' w',XH wm n ρ s.h w e s' e' a' w'->Q' e' a' w') ->
 wpListIn F 0 X.P ops (Exit.then (rest.wpIn F 0 X.P Q') Q') l a w:=by
 obtain⟨e1,s1,hk,ho⟩:=k.out;have hk:=hk.out;cases e1 with
 | normal=>
   obtain⟨e,s',hq,hj⟩:=hk;obtain⟨_,_,q0,kb⟩:=Y9.1 hj;cases q0;refine⟨e,s',hq,fun{ρ F a w} hi hw hF Q' hQ=>ho _ hi hw hF fun e' a' w' hp=>?_⟩;obtain⟨ρ',he,hi',hst⟩:=hp;cases he;exact wpIn_mono (kb ρ' a' w' F (KB hw hst.size) hi' (hF.mono hst.ext)) fun e2 a2 w2 hp2=>hQ _ _ _ (XH.trans hi.rel.lt hst hp2)
 | exit id=>
   refine⟨_,s1,hk,fun{ρ F a w} hi hw hF Q' hQ=>ho _ hi hw hF fun e' a' w' hp=>?_⟩;obtain⟨ρ',he,hi',hst⟩:=hp;cases he;exact hQ _ _ _ ⟨ρ',.exit id,hi',hst⟩
 | goto id=>
   refine⟨_,s1,hk,fun{ρ F a w} hi hw hF Q' hQ=>ho _ hi hw hF fun e' a' w' hp=>?_⟩;obtain⟨ρ',he,hi',hst⟩:=hp;cases he;exact hQ _ _ _ ⟨ρ',.goto id,hi',hst⟩
 | ret=>
   refine⟨_,s1,hk,fun{ρ F a w} hi hw hF Q' hQ=>ho _ hi hw hF fun e' a' w' hp=>?_⟩;obtain⟨ρ',he,hi',hst⟩:=hp;cases he;exact hQ _ _ _ ⟨ρ',.ret,hi',hst⟩
 | panic v=>
   refine⟨_,s1,hk,fun{ρ F a w} hi hw hF Q' hQ=>ho _ hi hw hF fun e' a' w' hp=>?_⟩;obtain⟨ρ',he,hi',hst⟩:=hp;cases he with
   | panic hv=>exact hQ _ _ _ ⟨ρ',.panic hv,hi',hst⟩
def EL.mem'{ρ:Ren}{es es':U V5}(e:EL ρ es es'){x:V5}(hx:x∈es):∃x'∈es',x'.born=x.born:=by
 induction e with
 | nil=>cases hx
 | cons hk hp hb hv _ ih=>
   rcases Kx.1 hx with rfl|h
   ·exact⟨_,by simp,hb⟩
   ·obtain⟨x',h1,h2⟩:=ih h;exact⟨x',Ks _ h1,h2⟩
def ZxO{s:Fs}{id:Nat}{o:Oper}{t it m Qe clock d:Nat}{es:U V5}{T:U Nat}{v:N}{e:XX}{s2:Fs}(Z9:Nat->Z)
 (hops:ops.toList=o::l) (hop:o.op=.next (.tmp t) false) (hgu:o.guard=none) (hfr:s.fr.at t=(V9 it)) (hit:s.h.at it=.iter m clock Qe none) (hm:s.h.at m=.map es clock) (hck:clock<=Qe) (hborn:Xr clock es=true) (ZrV:wm<=it) (htT:t∉T) (hd:o.dst=some d) (hdn:d<n) (hdT:d∈T) (hv:plain v=true)
 (Zi7:∀x∈es,∃ex s3,(s3.ds=s.ds/\(∀t,t∉T->s3.fr.at t=s.fr.at t)/\(ex=.normal/\Z9 x.born=false\/ex=.panic v/\Z9 x.born=true))/\∀{ρ:Ren}{F:Fence}{a:Act}{w:V3},Inv ρ n {fr:=Ji (YA T s.fr) o.dst (.tuple #[.bool true,x.key,x.val]),ds:=s.ds,h:=s.h.put it (.iter m clock clock (some x.born)),wr:=s.wr} a w->s.h.size<=(s.h.put it (.iter m clock clock (some x.born))).size->FR' ρ rd F->∀Q':Exit->Act->V3->Prop,
   (∀e' a' w',XH s.h.size n ρ (s.h.put it (.iter m clock clock (some x.born))) w ex s3 e' a' w'->Q' e' a' w')->wpListIn F 0 X.P ops (Exit.then (rest.wpIn F 0 X.P Q') Q') l a w)
 (hover:(∀x∈es,Z9 x.born=false)->e≠.normal/\∀{ρ:Ren}{F:Fence}{a:Act}{w:V3},Inv ρ n {s with fr:=Ji (YA T s.fr) o.dst JU,h:=s.h.put it .dead} a w->wm<=(s.h.put it .dead).size->FR' ρ rd F->∀Q':Exit->Act->V3->Prop,
   (∀e' a' w',XH wm n ρ (s.h.put it .dead) w e s2 e' a' w'->Q' e' a' w')->wpListIn F 0 X.P ops (Exit.then (rest.wpIn F 0 X.P Q') Q') l a w)
 (ZkQ:(∃x∈es,Z9 x.born=true)->e=.panic v/\s2= {s with fr:=YA T s.fr,h:=s.h.put it .dead}):Yn X (.loop (.seq (.region id ops false) rest) n wm rd s) (.code e s2):=by
 refine ZaF.2 ⟨e,s2,rfl,fun ρ a0 w0 F Zy hi0 hF=>?_⟩;obtain⟨dd,hdr⟩:∃d,d=it:=⟨_,rfl⟩
 have ZrY:=hi0.fr.val t (by rw[hfr];rfl);rw[hfr]at ZrY;generalize hpx:a0.tmps.getD t undef=px at ZrY;cases ZrY with
 | @ptr _ bi di _ Zd2=>
 have hoi:=hi0.rel.obj _ _ _ Zd2;rw[hit]at hoi;obtain⟨rfl,bm,ZKb,Zi1,Zyy,_,Zd3⟩:=hoi;have Zd3:=Zd3 rfl;subst Zd3;have hom:=hi0.rel.obj _ _ _ Zi1;rw[hm]at hom;obtain⟨_,es',Zyu,hes⟩:=hom;have hilt:=hi0.rel.dom _ _ _ Zd2;have ZP3:=hi0.rel.dom _ _ _ Zi1;have ZrZ:m≠it:=fun z=>by rw[z,hit]at hm;cases hm
 have hold:∀x∈es'.toList,x.born<clock:=by
  intro x hx;obtain⟨y,hy,_,_,hyb,_⟩:=hes.mem hx;rw[hyb];exact Zeh hborn y hy
 have Zpl:∀j b d,ρ j=some (b,d)->b=bi->j≠it->((s.h.at j).live=true->False):=by
  intro j b d hj hbb hne' hl;subst hbb;exact hne' (hi0.rel.inj it j b 0 d Zd2 hj (by rw[hit];rfl) hl).symm
 have hbne:bm≠bi:=fun z=>Zpl m bm 0 Zi1 z ZrZ (by rw[hm];rfl)
 have ZLB:s.h.size=(s.h.put it .dead).size:=rfl
 have Zi5:∀{a:Act}{w:V3}{K:Act->V3->Prop}{Q:Exit->Act->V3->Prop}{v:N}{w1:V3},a.tmps.getD t undef=(V9 bi)->(Instr.next ((V9 bi)) false o.type).run X.P w=.ok v w1 ->
  K (a.put o.dst v) w1->(if Region.wanted o (yielded ops a.tmps) then o.wpIn F 0 X.P a w K Q else(∀f,o.about X.P w a.eval=some f->F.fn f)/\K (a.put o.dst undef) w):=by
  intro a w K Q v w1 ht hrun hK;have hw:Region.wanted o (yielded ops a.tmps)=true:=by unfold Region.wanted;rw[hgu]
  rw[if_pos hw];refine⟨fun f hab=>(by unfold Oper.about at hab;rw[hop]at hab;cases hab),?_⟩;have Zm6:o.semAt F.round a.eval=execOp a.eval o:=Oper.semAt_eq _ _ _ fun c hc=>by rw[hop]at hc;cases hc
  have he:a.eval (.tmp t)=(V9 bi):=ht
  have hx:(execOp a.eval o).run X.P w=.ok (.value v) w1:=by
   unfold execOp;rw[hop];simp[he,hrun]
  rw[Zm6,hx];exact hK
 have ZLy:∀t,t∉T->t≠d:=fun t ht z=>by rw[z]at ht;exact ht hdT
 have Zpd:∀(a:Act)(w:V3),Inv ρ n {s with fr:=YA T s.fr,h:=s.h.put it .dead} a w->a.tmps.getD t undef=(V9 bi):=by
  intro a w hi;have h0:VR ρ ((YA T s.fr).at t) (a.tmps.getD t undef):=hi.fr.val t (by show X6 ((YA T s.fr).at t)=false;rw[Xv,if_neg htT,hfr];rfl);rw[Xv,if_neg htT,hfr]at h0;generalize a.tmps.getD t undef=y at h0;cases h0 with
  | ptr _ h1=>rw[Zd2]at h1;cases h1;rfl
 have Zyl:(∀x∈es,Z9 x.born=false)->∀(a:Act)(w:V3),Inv ρ n {s with fr:=YA T s.fr,h:=s.h.put it .dead} a w->Stp wm ρ s.h w0 ρ (s.h.put it .dead) w->a.tmps.getD t undef=(V9 bi) ->
  (Instr.next ((V9 bi)) false o.type).run X.P w=.ok JU w->LoopIn F 0 X.P (.seq (.region id ops false) rest) (XH wm n ρ s.h w0 e s2) a w:=by
  intro hall a w hi hst ht hrun;obtain⟨hne,hover⟩:=hover hall;refine XZ (wpIn_seq (wpIn_region_list ?_));rw[hops];refine Zi5 ht hrun ?_
  have hio:Inv ρ n {s with fr:=Ji (YA T s.fr) o.dst JU,h:=s.h.put it .dead} (a.put o.dst JU) w:=by
   refine⟨hi.rel,?_,?_⟩
   ·rw[hd];exact hi.fr.set hdn (VR.ZL rfl)
   ·rw[hd];exact hi.ds
  refine hover hio Zy hF _ fun e3 a3 w3 hp=>?_
  have hp2:=XH.trans hi0.rel.lt hst hp;obtain⟨ρ3,hx3,hi3,QX⟩:=hp2;cases hx3 with
  | normal=>exact(hne rfl).elim
  | exit id=>exact⟨ρ3,.exit id,hi3,QX⟩
  | goto id=>exact⟨ρ3,.goto id,hi3,QX⟩
  | ret=>exact⟨ρ3,.ret,hi3,QX⟩
  | panic hv=>exact⟨ρ3,.panic hv,hi3,QX⟩
 have ZFp:∀seen:V4 Nat,(∀b,seen.contains b=true->Z9 b=false)->(leftOf es' seen).size=0->∀x∈es,Z9 x.born=false:=by
  intro seen ZgY h00 x hx;obtain⟨y,hy,hyb⟩:=hes.mem' hx;refine ZgY _ ?_;cases hc:seen.contains x.born with
  | true=>rfl
  | false=>
    exfalso;have:y∈leftOf es' seen:=Array.mem_filter.2 ⟨Array.mem_toList_iff.1 hy,by rw[hyb,hc];rfl⟩;rw[GP h00]at this;simp at this
 have head:∀(k:Nat)(seen:V4 Nat)(last:Nat)(a:Act)(w:V3),(∀b,seen.contains b=true->Z9 b=false)->(leftOf es' seen).size<=k->clock<=last->w.heap[bi]? =some (.mapIter (some bm) clock seen last)->w.heap[bm]? =some (.map es' clock) ->
  Inv ρ n {s with fr:=YA T s.fr,h:=s.h.put it .dead} a w ->
  Stp wm ρ s.h w0 ρ (s.h.put it .dead) w->LoopIn F 0 X.P (.seq (.region id ops false) rest) (XH wm n ρ s.h w0 e s2) a w:=by
  intro k
  induction k with
  | zero=>
    intro seen last a w ZgY hk hlast hblk ZeT hi hst;have ht:=Zpd a w hi;rcases Zhu (P:=X.P) o.type hblk ZeT hold (hlast) with⟨h00,hrun⟩|⟨e',he',_⟩
    ·exact Zyl (ZFp seen ZgY h00) a w hi hst ht hrun
    ·have:=G6▸List.length_pos_of_mem he';omega
  | succ k ihk=>
    intro seen last a w ZgY hk hlast hblk ZeT hi hst;have ht:=Zpd a w hi;rcases Zhu (P:=X.P) o.type hblk ZeT hold (hlast) with⟨h00,hrun⟩|⟨e',he',w1,hw1,hsame,hrun⟩
    ·exact Zyl (ZFp seen ZgY h00) a w hi hst ht hrun
    ·have hmem:=(mem_left he').1;obtain⟨x,hx,hkey,hkp,hbn,hval⟩:=hes.mem hmem;obtain⟨ex,s3,⟨ZHi,hwr,hpn⟩,hbody⟩:=Zi7 x hx;have Zyw:bi<w.heap.size:=(hi.rel.dom _ _ _ Zd2).2;have ZLA:bm<w.heap.size:=(hi.rel.dom _ _ _ Zi1).2;obtain⟨w2,hw2⟩:∃w2,w2=w1.putObj bi (.mapIter (some bm) clock (seen.push e'.born) clock):=⟨_,rfl⟩
     rw[<-hw2]at hrun;have hsz2:w2.heap.size=w.heap.size:=by rw[hw2,World.putObj_size,hw1]
     have hother:∀k,k≠bi->w2.heap[k]? =w.heap[k]?:=fun k hk=>by rw[hw2,World.putObj_heap_other hk,hw1]
     have Zyz:w2.heap[bi]? =some (.mapIter (some bm) clock (seen.push e'.born) clock):=by rw[hw2];exact World.putObj_heap_same (by rw[hw1];exact Zyw)
     have Zd4:Same w w2:=by rw[hw2];exact⟨hsame.os,hsame.tape,hsame.output⟩
     have hrel:Rel ρ (s.h.put it (.iter m clock clock (some x.born))) w2:=by
      refine Zin hi.rel Zd2 Zpl hother hsz2 ⟨rfl,bm,seen.push e'.born,Zi1,Zyz,fun z hz=>?_,fun z=>by cases z⟩;cases hz;rw[<-hbn];simp
     have hie:Inv ρ n {fr:=Ji (YA T s.fr) o.dst (.tuple #[.bool true,x.key,x.val]),ds:=s.ds,h:=s.h.put it (.iter m clock clock (some x.born)),wr:=s.wr} (a.put o.dst (.tuple #[.bool true,e'.key,e'.val])) w2:=by
      refine⟨hrel,?_,?_⟩
      ·rw[hd];refine hi.fr.set hdn (.tuple _ _ rfl fun j y y' p q=>?_)
       match j,p,q with
       | 0,p,q=>simp at p q;subst p q;exact .bool true
       | 1,p,q=>simp at p q;subst p q;rw[hkey];exact VR.ZL hkp
       | 2,p,q=>simp at p q;subst p q;exact hval
       | j+3,p,q=>simp at p
      ·rw[hd];exact hi.ds
     refine XZ (wpIn_seq (wpIn_region_list ?_));rw[hops];refine Zi5 ht hrun<|hbody hie Vb hF _ fun e3 a3 w3 hp=>?_
     obtain⟨ρ3,hx3,hi3,QX⟩:=hp;obtain⟨q1,q2⟩:=ZaO hrel QX;have Zr0:∀b,b<w2.heap.size->w3.heap[b]? =w2.heap[b]?:=fun b hb=>QX.frame b hb fun i d hi' e _=>by have:=hrel.lt i _ e;simp at this hi';omega
     have hinv:Inv ρ n {s with fr:=YA T s.fr,h:=s.h.put it .dead} a3 w3:=by
      refine⟨?_,⟨hi3.fr.size,fun t hany=>?_⟩,?_⟩
      ·refine(ZbQ (i:=it) q1).congr rfl fun i=>?_
       rw[H.XM,H.XM];by_cases hii:i=it/\i<s.h.size
       ·rw[if_pos hii,if_pos (by simpa using hii)]
       ·rw[if_neg hii,if_neg (by simpa using hii),H.XM,if_neg hii]
      ·change X6 ((YA T s.fr).at t)=false at hany
       show VR ρ ((YA T s.fr).at t) _;rw[Xv]at hany ⊢;by_cases Zb7:t∈T
       ·rw[if_pos Zb7]at hany;cases hany
       ·rw[if_neg Zb7]at hany ⊢;have h0:=hi.fr.val t (by show X6 ((YA T s.fr).at t)=false;rw[Xv,if_neg Zb7];exact hany);have h0:VR ρ ((YA T s.fr).at t) _:=h0;rw[Xv,if_neg Zb7]at h0;have h1:=hi3.fr.val t (by rw[hwr t Zb7];exact hany);rw[hwr t Zb7]at h1;exact VR.back QX.ext h0 h1
      ·have h0:DsR ρ s.ds a.defers:=hi.ds;have h1:=hi3.ds;rw[ZHi]at h1;exact DsR.back QX.ext h0 h1
     have hstp:Stp wm ρ s.h w0 ρ (s.h.put it .dead) w3:=by
      refine⟨Ren.le_refl _,hst.size,hst.keep,hst.own,hst.live,QX.os.trans (Zd4.os.trans hst.os),QX.tape.trans (Zd4.tape.trans hst.tape),QX.output.trans (Zd4.output.trans hst.output),
       KB hst.Y8 (by rw[<-hsz2];exact QX.Y8),fun b hb hno=>?_,fun i b d p q=>by rw[p]at q;cases q⟩
      have hbb:b≠bi:=fun z=>by subst z;exact hno it 0 ZrV Zd2 (by rw[hit];rfl)
      have:=hst.Y8;rw[Zr0 b Va,hother b hbb,hst.frame b hb hno]
     rcases hpn with⟨rfl,hpf⟩|⟨rfl,hpt⟩
     ·cases hx3;show LoopIn F 0 X.P _ _ a3 w3
      exact ihk (seen.push e'.born) clock a3 w3 (fun b hb=>by
       rw[contains_push]at hb;rcases Bool.or_eq_true_iff.1 hb with z|z
       ·exact ZgY b z
       ·have:b=e'.born:=by simpa using z
        rw[this,hbn];exact hpf) (by have:=left_shrinks es' seen e' he';omega) Vb (by rw[Zr0 bi Va];exact Zyz) (by rw[Zr0 bm Va,hother bm hbne];exact ZeT) hinv hstp
     ·obtain⟨he,ZPV⟩:=ZkQ ⟨x,hx,hpt⟩;cases hx3 with
      | panic hv3=>
        show XH wm n ρ s.h w0 e s2 _ a3 w3;rw[he,ZPV];have:=VR.Y2 hv hv3;subst this;exact⟨ρ,.panic (VR.ZL hv),hinv,hstp⟩
 have ZrW:Stp wm ρ s.h w0 ρ (s.h.put it .dead) w0:=by
  have kk:=JH (h:=s.h) (A:=.dead) ZrV (by rw[hit];rfl);exact⟨Ren.le_refl _,K1 _,kk.keep,kk.own,kk.live,rfl,rfl,rfl,K1 _,fun _ _ _=>rfl,fun i b d e e'=>by rw[e]at e';cases e'⟩
 refine head _ #[] Qe a0 w0 (fun b hb=>by simp at hb) Vb hck Zyy Zyu ⟨ZbQ hi0.rel,⟨hi0.fr.size,fun t hany=>?_⟩,hi0.ds⟩ ZrW
 change X6 ((YA T s.fr).at t)=false at hany
 show VR ρ ((YA T s.fr).at t) _;rw[Xv]at hany ⊢;by_cases ht:t∈T
 ·rw[if_pos ht]at hany;cases hany
 ·rw[if_neg ht]at hany ⊢;exact hi0.fr.val t hany
def Agr(T:U Nat)(fr fr':Fr):Prop:=∀t v,T.contains t=false->fr.at t=v->fr'.at t=v
def Agr.at{T:U Nat}{fr fr':Fr}(a:Agr T fr fr'){t:Nat}{v:N}(ht:T.contains t=false)(h:fr.at t=v):fr'.at t=v:=a t v ht h
def MFr(T:U Nat)(fr f:Fr):Prop:=∀t,t∉T->f.at t=fr.at t
def MFr.z{T:U Nat}{fr:Fr}:MFr T fr fr:=fun _ _=>rfl
def MFr.s{T:U Nat}{fr f:Fr}{i:Nat}{v:N}(hi:T.contains i=true)(h:MFr T fr f):MFr T fr (Tr.set f i v):=fun t ht=>by
 have hne:t≠i:=fun z=>ht (by subst z;rwa[Gv]at hi)
 have:=Za0 (fr:=f) (d:=some i) (v:=v) (t:=t);rw[show Ji f (some i) v=Tr.set f i v from rfl]at this;rw[this,if_neg (fun z=>hne (Oi0 z).symm)];exact h t ht
structure ZsX(T:List Nat)(fr:Fr)(ds:List Deferred)(v:Value)(p:Bool)(e:XX)(s:Fs):Prop where
 ds:s.ds=ds
 fr:MFr T fr s.fr
 e:e=.normal/\p=false\/e=.panic v/\p=true
def ZsX.Yc{T:U Nat}{fr f:Fr}{ds:U V6}{v:N}{h:H}(k:MFr T fr f):ZsX T fr ds v false .normal ⟨f,ds,h,none⟩:=⟨rfl,k,.inl ⟨rfl,rfl⟩⟩
def ZsX.panic{T:U Nat}{fr f:Fr}{ds:U V6}{v:N}{h:H}(k:MFr T fr f):ZsX T fr ds v true (.panic v) ⟨f,ds,h,none⟩:=⟨rfl,k,.inr ⟨rfl,rfl⟩⟩
structure ZEf(Q:XX->Fs->Prop)(e:XX)(s:Fs):Prop where
 nn:e≠.normal
 k:Q e s
def ZEf.exit{Q:XX->Fs->Prop}{s:Fs}{id:Nat}(k:Q (.exit id) s):ZEf Q (.exit id) s:=⟨(fun z=>by cases z),k⟩
def ZEi{κ ν:Type}(kv:κ->N)(vv:ν->N)(h:H)(it:Nat)(x:κ×ν):Prop:=Zep h ((V9 it))=some (.tuple #[kv x.1,vv x.2])
section
variable{κ ν:Type}{kv:κ->N}{vv:ν->N}{ll:U (κ×ν)}{bs:U Nat}
def ZoU:∀{ll:U (κ×ν)}{bs:U Nat}{x:V5},x∈Xx kv vv ll bs->∃(j:Nat) (y:κ×ν) (b:Nat),ll[j]? =some y/\bs[j]? =some b/\x=⟨kv y.1,vv y.2,b⟩:=by
 intro ll bs x hx;obtain⟨j,hj⟩:=GL.1 hx;unfold Xx at hj;rw[List.getElem?_zipWith]at hj;cases h1:ll[j]? with
 | none=>rw[h1]at hj;simp at hj
 | some y=>
   cases h2:bs[j]? with
   | none=>rw[h1,h2]at hj;simp at hj
   | some b=>rw[h1,h2]at hj;simp at hj;exact⟨j,y,b,h1,h2,hj.symm⟩
def ZCi{j:Nat}{y:κ×ν}{b:Nat}(h1:ll[j]? =some y)(h2:bs[j]? =some b):(⟨kv y.1,vv y.2,b⟩:V5)∈Xx kv vv ll bs:=by
 refine GL.2 ⟨j,?_⟩;unfold Xx;rw[List.getElem?_zipWith,h1,h2]
def ZgW{b:Nat}:∀{ll:U (κ×ν)}{bs:U Nat},b∉bs->KM b (Xx kv vv ll bs)=true
 | [],_,_=>by unfold Xx;simp[KM]
 | _::_,[],_=>by unfold Xx;simp[KM]
 | x::ll,b'::bs,h=>by
   have ih:=ZgW (ll:=ll) (bs:=bs) (b:=b) (fun z=>h (by simp[z]));unfold Xx at ih ⊢;rw[List.zipWith_cons_cons];unfold KM;have:Nat.beq b' b=false:=by rw[Gg];intro q;exact h (by simp[Nb0 q])
   dsimp only;rw[this];exact ih
def ZiI{Qe:Nat}:∀{ll:U (κ×ν)}{bs:U Nat},bs.Nodup->(∀b∈bs,b<Qe)->Xr Qe (Xx kv vv ll bs)=true
 | [],_,_,_=>by unfold Xx;simp[Xr]
 | _::_,[],_,_=>by unfold Xx;simp[Xr]
 | x::ll,b::bs,hn,hl=>by
   rw[List.nodup_cons]at hn;have ih:=ZiI (ll:=ll) (bs:=bs) hn.2 (fun b hb=>hl b (by simp[hb]));have hno:KM b (Xx kv vv ll bs)=true:=ZgW (ll:=ll) hn.1;unfold Xx at ih hno ⊢;rw[List.zipWith_cons_cons];unfold Xr;dsimp only;rw[hno,ih];have:Nat.blt b Qe=true:=by rw[G4];exact hl b (by simp)
   rw[this];rfl
def Zly:∀{ll:U (κ×ν)}{bs:U Nat}{j:Nat}{y:κ×ν}{b:Nat},bs.Nodup->ll[j]? =some y->bs[j]? =some b->Zl3 b (Xx kv vv ll bs)=some ⟨kv y.1,vv y.2,b⟩
 | [],_,_,_,_,_,h,_=>by simp at h
 | _::_,[],_,_,_,_,_,h=>by simp at h
 | x::ll,b'::bs,j,y,b,hn,h1,h2=>by
   rw[List.nodup_cons]at hn;unfold Xx;rw[List.zipWith_cons_cons];unfold Zl3;dsimp only;cases j with
   | zero=>
     simp at h1 h2;subst h1 h2;rw[Nat.beq_refl];rfl
   | succ j=>
     simp at h1 h2
     have:Nat.beq b' b=false:=by
      rw[Gg];intro q;have:=Nb0 q;subst this;exact hn.1 (GL.2 ⟨j,h2⟩)
     rw[this];exact Zly hn.2 h1 h2
end
section
variable{wm:Nat}{G Gr:U (Ast wm)}{h h0:H}{T0:Nat->Prop}{fr:Fr}{ds:U V6}{ty:J}{p:String}{af:V4 Edge}{g:O (Nat×Z)}{κ ν:Type}{kv:κ->N}{vv:ν->N}{ll:U (κ×ν)}{d:Nat}
def WO.rng{Q:XX->Fs->Prop}{t kt vt:J}{x:GZ}{i:Nat}(hg:ZY ops ⟨some d,.range t x,ty,p,af,g⟩ fr)(hd:Nat.blt d n=true)(hS:Sp wm T0 h0 G h)(hu:X.P.underlying t=some (.map kt vt))(hx:YG fr x=some (.map (some i)))(s:MapAt kv vv h (some i) ll)
 (k:∀h' b bs Qe,Sp wm T0 h0 (ob wm b (.iter i Qe Qe none)::G) h'->h'.at i=.map (Xx kv vv ll bs) Qe->bs.length=ll.length/\bs.Nodup/\(∀x∈bs,x<Qe)->WO X n wm rd ops l ⟨Tr.set fr d ((V9 b)),ds,h',none⟩ Q):
 WO X n wm rd ops (⟨some d,.range t x,ty,p,af,g⟩::l) ⟨fr,ds,h,none⟩ Q:=by
 rcases s.mem with⟨q,_⟩|⟨i',bs,Qe,q,h1,h2,h3,h4⟩
 ·cases q
 ·cases q;refine WO.v (v:=Jc h) (E:=.new (.iter i Qe Qe none)) (h1:=h.push (.iter i Qe Qe none)) hg hd ?_ (ZnG h rfl) (k (h.push (.iter i Qe Qe none)) h.size bs Qe (ZiD rfl hS) ?_ ⟨h2,h3,h4⟩)
  ·show(match YG fr x with
    | some x=>vE (Zkn X.P h t x)
    | none=>none)=_
   rw[hx];dsimp only;unfold Zkn;simp only[hu,h1]
   rfl
  ·rw[Ww (Qf h1 rfl),h1]
def ZAx{x:GZ}{it:Nat}{y:κ×ν}(hx:YG fr x=some ((V9 it)))(he:ZEi kv vv h it y):Xt X h (YG fr) ⟨some d,.entry x,ty,p,af,g⟩=some (.val (.tuple #[kv y.1,vv y.2]),.none):=by
 show(match YG fr x with
  | some it=>vN (Zep h it)
  | none=>none)=_
 rw[hx];dsimp only;rw[show Zep h ((V9 it))=_ from he];rfl
end
end
section
variable{X:Ctx}{n wm:Nat}{rd:O Nat}{ops:V4 Oper}{l:U Oper}{fr:Fr}{ds:U V6}{h h1 h2 h0:H}{T:Nat->Prop}{G Gr Ga Gb:U (Ast wm)}
end
end Go.ZP
end
end
section
namespace Go.Lf
end Go.Lf
end
section
noncomputable section
namespace Go.ZP
open Go.Lf
section
variable{X:Ctx}{n wm:Nat}{rd:O Nat}{ops:V4 Oper}{l:U Oper}{rest:Code}
section
variable{wm:Nat}{G Gr:U (Ast wm)}{h h0:H}{T0:Nat->Prop}{fr:Fr}{ds:U V6}{κ ν:Type}{kv:κ->N}{vv:ν->N}{ll:U (κ×ν)}{d:Nat}
structure RK(it:Nat)(h h2:H):Prop where
 it_:∃a b c d,h.at it=.iter a b c d
 at_:∀i,i≠it->h2.at i=h.at i
def Zld.rk{κ ν:Type}{kv:κ->N}{vv:ν->N}{it:Nat}{h h2:H}{m:Nat}{l:U (κ×ν)}(s:Zld kv vv h.size h (some m) l)(k:RK it h h2):Zld kv vv h.size h2 (some m) l:=
 ⟨s.at_.keep fun i e=>(by
   cases e;refine k.at_ m fun z=>?_
   obtain⟨a,b,c,d,e1⟩:=k.it_;rcases s.at_.mem with⟨q,_⟩|⟨j,bs,Qe,q,h1,_⟩
   ·cases q
   ·cases q;rw[z,e1]at h1;cases h1),s.low⟩
end
end
section
variable{P:V0}
end
section
variable{X:Ctx}{n wm:Nat}{rd:O Nat}{ops:V4 Oper}{ol:U Oper}{fr:Fr}{ds:U V6}{h h0:H}{ty:J}{p:String}{af:V4 Edge}{g:O (Nat×Z)}{T:Nat->Prop}{G Gr:U (Ast wm)}{d l df:Nat}{LO:YS}{ps:V4 Tmp}{YH bd:Code}
def XU{α β:Type}{body:α->(α->O β)->O β}(C:α->β->Prop)(hb:∀next:α->O β,(∀x r,next x=some r->C x r)->∀x r,body x next=some r->C x r):∀F x r,loop F body x=some r->C x r:=by
 intro F
 induction F with
 | zero=>intro x r h;cases h
 | succ F ih=>intro x r h;exact hb _ ih x r h
def dne(c:Code):YS->YS
 | .loop _ _ fr n ps YH bd df=>.loop .done (some c) fr n ps YH bd df
 | A=>A
def lst(b:Z)(c:Code)(A:YS):YS:=bif b then dne c A else A
inductive ZA2:XX->Code->Prop
 | ret:ZA2 .ret .ret
 | exit (id:Nat):ZA2 (.exit id) (.exit id)
structure BdS(n lo l:Nat)(fr:Fr)(ps:Array Tmp)(YH bd:Code)(df:Nat)(R:Bool->H->Prop)(e:XX)(s:Fs):Prop where
 out:s.h.at l=.loop .busy none fr n ps YH bd df/\
  ((e=.normal/\∀h',(lo<=l->Up lo (fun i=>i=l) s.h h')->h'.at l=.loop .ready none fr n ps YH bd df->R true h')\/
   (∃c,ZA2 e c/\∀h',(lo<=l->Up lo (fun i=>i=l) s.h h')->h'.at l=.loop .done (some c) fr n ps YH bd df->R false h'))
def BdS.sp{Jd:Fr}{R:Z->H->Prop}(hLO:LO=.loop .ready none fr n ps YH bd df)(hS:Sp wm T h0 G h)(pk:Pk G (ob wm l (bsy LO)) Gr)(k:∀h1,Sp wm T h0 (ob wm l LO::Gr) h1->R true h1):BdS n wm l fr ps YH bd df R .normal ⟨Jd,ds,h,none⟩:=by
 obtain⟨h1,h2,h3⟩:=hS.get pk;refine⟨⟨h1.trans (by rw[hLO];rfl),.inl ⟨rfl,fun h' u e=>k h' ?_⟩⟩⟩;exact hS.one pk (u h2) (fun _ q=>q) ⟨by rw[e,hLO],h2,by rw[hLO];rfl⟩ fun _ q=>.inl q
structure RgS(X:Ctx)(wm l:Nat)(fr:Fr)(n:Nat)(ps:Array Tmp)(YH bd:Code)(df:Nat)(ds:List Deferred)(Q:XX->Fs->Prop)(h:H):Prop where
 low:wm<=l
 k:(h.at l=.loop .ready none fr n ps YH bd df/\∀h',Up wm (fun i=>i=l) h h'->Q .normal ⟨fr,⟨.collected df,#[]⟩::ds,h',none⟩)\/
  (∃c,h.at l=.loop .done (some c) fr n ps YH bd df/\∀h',Up wm (fun i=>i=l) h h'->WC X n wm none c ⟨fr,⟨.collected df,#[]⟩::ds,h',none⟩ Q)
def RgS.sp{Q:XX->Fs->Prop}(hLO:LO=.loop .ready none fr n ps YH bd df)(hS:Sp wm T h0 G h)(pk:Pk G (ob wm l LO) Gr)(k:∀h',Sp wm T h0 Gr h'->Q .normal ⟨fr,⟨.collected df,#[]⟩::ds,h',none⟩):RgS X wm l fr n ps YH bd df ds Q h:=by
 obtain⟨h1,h2,h3⟩:=hS.get pk;refine⟨h2,.inl ⟨h1.trans hLO,fun h' u=>k h' ?_⟩⟩;exact Sp.step (Ga:=[ob wm l LO]) (Gb:=[]) (hS.perm pk.perm) u (fun i e=>⟨_,G7.2 rfl,e⟩) Yp.nil fun i ⟨A,m,f⟩=>by simp at m
structure JnP{α β:Type}(I:α->Fs->Prop)(j:α->Option β)(r:β)(Q:XX->Fs->Prop)(e:XX)(s:Fs):Prop where
 out:(e=.normal/\∃x,j x=some r/\I x s)\/(e≠.normal/\Q e s)
def JnP.Yc{α β:Type}{I:α->Fs->Prop}{j:α->O β}{r:β}{Q:XX->Fs->Prop}{s:Fs}(x:α)(h:j x=some r)(i:I x s):JnP I j r Q .normal s:=⟨.inl ⟨rfl,x,h,i⟩⟩
def JnP.pass{α β:Type}{I:α->Fs->Prop}{j:α->O β}{r:β}{Q:XX->Fs->Prop}{e:XX}{s:Fs}(h:e≠.normal)(q:Q e s):JnP I j r Q e s:=⟨.inr ⟨h,q⟩⟩
def WC.jnP{Q:XX->Fs->Prop}{c:Code}{s:Fs}{α β:Type}{r:β}(I:α->Fs->Prop)(j:α->O β)(k:∀x s',j x=some r->I x s'->Q .normal s')(hc:WC X n wm rd c s (JnP I j r Q)):WC X n wm rd c s Q:=
 hc.mono fun e s' ⟨q⟩=>by
   rcases q with⟨q,x,h1,h2⟩|⟨_,q⟩
   ·rw[q];exact k x s' h1 h2
   ·exact q
def ZdB{κ ν:Type}[DecidableEq κ]{kv:κ->N}{vv:ν->N}{kt vt:J}{i:Nat}{ll:U (κ×ν)}{t:J}{x y z:GZ}{k:κ}{v:ν}(hS:Sp wm T h0 G h)(pk:Pk G (mp wm kv vv (some i) ll) Gr)(K:ZgI X.P kt kv)(hu:X.P.underlying t=some (.map kt vt))(hx:YG fr x=some (.map (some i)))(hy:YG fr y=some (kv k))(hz:YG fr z=some (vv v)):
 HU X wm ⟨none,.insert t x y z,ty,p,af,g⟩ fr h (fun j=>j=i) (fun h'=>Sp wm T h0 (mp wm kv vv (some i) (Xw ll k v)::Gr) h'):=
 ZeA (ty:=ty) (p:=p) (af:=af) (g:=g) hS pk K hu hx hy hz
def fzG{α:Type}(wm:Nat)(r:JY α)(c:Z)(p:r.Par)(x:α):Ast wm where
 P:=fun h=>c=true->r.F wm h p x
 fp:=fun _=>False
 loc:=fun f _ s hc=>r.mono f (s hc)
 own:=fun _ z=>z.elim
def Sp.fzg{α:Type}{e:JY α}{a:O Addr}{c:Nat}{b:Z}{xs:U α}(s:Sp wm T h0 G h)(pk:Pk G (fzG wm (YB e) b (a,c) xs) Gr):b=true->Sl e wm h a c xs:=s.get pk
def Sp.ZHZ{α:Type}{e:JY α}{a:O Addr}{c:Nat}{b:Z}{xs:U α}(s:Sp wm T h0 G h)(pk:Pk G (fzG wm (YB e) b (a,c) xs) Gr):b=true->Sl e h.size h a c xs:=fun hb=>(s.fzg pk hb).up s.hw
section
variable{sf:ST}{m:Nat}
def Sp.djs{T0:Nat->Prop}{G Ga Gr:U (Ast wm)}{B:Ast wm}(s:Sp wm T0 h0 G h)(p:Sel G (B::Ga) Gr):∀x,QF Ga x->¬ B.fp x:=fun x ⟨A,hA,fa⟩ fb=>
 (GW.1 (s.Zbc p).dis).1 A hA x fb fa
inductive Lk(ops:Array Oper)(m:Nat)(R:Nat->Prop):List (Nat×(Nat->Prop))->Prop
 | n:Lk ops m R []
 | o {q:Nat×(Nat->Prop)} {r:List (Nat×(Nat->Prop))} (h:comp (XI ops.toList 0 []) q.1 m=true):Lk ops m R r->Lk ops m R (q::r)
 | d {q:Nat×(Nat->Prop)} {r:List (Nat×(Nat->Prop))} (h:∀x,q.2 x->¬ R x):Lk ops m R r->Lk ops m R (q::r)
def Lk.get{R:Nat->Prop}{r:U (Nat×(Nat->Prop))}(h:Lk ops m R r):∀q∈r,Cmp ops q.1 m\/∀x,q.2 x->¬ R x:=by
 induction h with
 | n=>intro q hq;simp at hq
 | o h1 _ ih=>intro q hq;rcases Kx.1 hq with z|z
              ·subst z;exact .inl h1
              ·exact ih q z
 | d h1 _ ih=>intro q hq;rcases Kx.1 hq with z|z
              ·subst z;exact .inr h1
              ·exact ih q z
def WX.wrM{Q:Fr->H->Prop}{T0:Nat->Prop}{G:U (Ast wm)}{op:Op}{v:N}(R:Nat->Prop)(hS:Sp wm T0 h0 G h)(hg:ZY ops ⟨some d,op,ty,p,af,g⟩ fr)(hd:Nat.blt d n=true)(ha:∀g':H,g'.size=h.size->(∀x,R x->g'.at x=h.at x)->Xt X g' (YG fr) ⟨some d,op,ty,p,af,g⟩=some (.val v,.none))
 (k:∀h',h'.size=h.size->Sp wm T0 h0 G h'->WX X n wm rd ops ⟨(m,fun x=>¬ R x)::sf.s,sf.m,sf.p⟩ (m+1) h' ol (Tr.set fr d v) Q) (hh:ZT ⟨some d,op,ty,p,af,g⟩=false) (hM:Lk ops m R sf.m):
 WX X n wm rd ops sf m h (⟨some d,op,ty,p,af,g⟩::ol) fr Q:=by
 have hsz:(Qa (Xu h R) h (mask (Xu h R) h)).size=h.size:=by rw[YN,Zo]
 have hvv:∀x,¬ R x->VV h (Qa (Xu h R) h (mask (Xu h R) h)) (Xu h R) x:=fun x hx=>by
  rcases Gp x h.size with z|z
  ·exact .inl ⟨z,Za9.2 ⟨z,hx⟩⟩
  ·exact .inr (by rw[hsz];exact z)
 refine⟨fun hb=>WE.cons (T:=fun _=>False) (xs0:=Xu h R) (h2:=Qa (Xu h R) h (mask (Xu h R) h)) (v:=v) [(m,fun x=>¬ R x)] [] none ?_ (fun q hq=>?_) (fun _ z=>z.elim) (fun _ z=>z.elim) (fun hh q hq=>(hM.get q hq).imp id fun z x hx=>hvv x (z x hx)) (fun x j C z=>by cases z) ((k _ hsz (hS.up (Up.hide wm _ h))).out fun q hq x hx=>by rw[hsz];exact hb q hq x hx)⟩
 ·have:=ZbK (wm:=wm) (rd:=rd) hg (.inl (ha _ (Zo _ _) fun x hx=>Zyx hx)) (h1:=mask (Xu h R) h) rfl;have t0:(fun x:Nat=>Eff.tgt Eff.none=some x)=fun _=>False:=by funext x;simp[Eff.tgt]
  rw[t0]at this;exact⟨fun hw=>⟨_,rfl,this.1,this.2.1 (by rw[Zo];exact hw)⟩,fun _ z=>z.elim,fun d' e=>(by cases e;rwa[G4]at hd),fun q=>Bool.noConfusion (hh.symm.trans q),fun _ z=>z.elim⟩
 ·rw[G7.1 hq];exact⟨rfl,fun x hx=>hvv x hx⟩
end
end
section
section
variable{X:Ctx}{n wm:Nat}{G G1 G2 Gr:U (Ast wm)}{h h0:H}{T:Nat->Prop}{df:Nat}{L:U Nat}{fr:Fr}{ds:U V6}
end
end
section
variable{X:Ctx}{n wm UC:Nat}{rd:O Nat}{ops:V4 Oper}{ol:U Oper}{m:Nat}{sf:ST}{fr:Fr}{h h0:H}{ty:J}{p:String}{af:V4 Edge}{g:O (Nat×Z)}{T:Nat->Prop}{G Gr:U (Ast wm)}{d:Nat}
section
variable{α:Type}{e:JY α}{a a1 a2:O Addr}{nn c n1 c1 n2 c2:Nat}{ps:Nat->O Addr×Nat×Nat}{xs:U (U α)}
end
section
variable{α:Type}{e:JY α}{t el:J}{x:GZ}{a:O Addr}{nn c:Nat}{xs zs:U α}{a1:Int}
end
end
end Go.ZP
end
end
