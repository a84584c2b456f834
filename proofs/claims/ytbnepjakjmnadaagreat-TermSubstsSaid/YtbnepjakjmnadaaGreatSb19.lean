/- TermSubsts returns true, whatever the arguments. No condition. -/
import Derived.Test.YtbnepjakjmnadaaGreatSb18
set_option linter.all false
set_option maxHeartbeats 2000000
section
noncomputable section
namespace Go.ZU
open Go.Lf
variable{P:V2}
def ZtL{t:Type}{e:U8 t}{V'':t->Prop}{E:Type}{h:H}{l:U (U N×DataW E)}{i cap:Nat}(C:l.length<=cap)(r:cap<=maxLen)(B:h.at i=.row (l.flatMap (·.1)) false 0)(q:∀x∈l,x.1.length=e.sz)
 (A:∀x∈l,∃p y,x.1=e.sh p y/\V'' y/\∀V,e.F V h p y):
 ∃(p:O Addr×Nat) (ys:U t),[Value.slice (some ⟨i,0,none⟩) l.length (2*cap)]=(Yh e).sh p ys/\(∀y∈ys,V'' y)/\∀V,(Yh e).F V h p ys:=by
 have⟨ys,h1,hv,h2⟩:=ZdU (e:=e) l A;refine⟨(some ⟨i,0,none⟩,2*cap),ys,by show [Value.slice _ _ _]=[Value.slice _ _ _];rw[h1],hv,fun V=>⟨?_,?_,.inr (.inr ⟨_,_,rfl⟩),.inr ⟨i,0,_,false,0,rfl,B,.inr rfl,?_,fun k y D=>?_⟩⟩⟩;.rw[h1];exact KK (KK C r) (by decide)
 .rw[h1];omega
 .rw[h1,Gc,ZgN l q];exact K1 _
 have⟨x,p,q1,q2,q3⟩:=h2 k y D;refine⟨p,?_,q3 V⟩;rw[Gc,ZfB l q q1,q2]
end Go.ZU
end
end
section
set_option maxRecDepth 100000
noncomputable section
namespace Go.Proofs.YtbnepjakjmnadaaGreat
open Go.Lf
section
open Go.ZU Go.Lf
def wfI(n:Int):Prop:=(Lit.int .i64 n).wf=true
inductive Zms:Zf->Prop
 | mk {x:Zf} (ho:wfI x.op) (hn:wfI x.n) (ht:x.qG.size<=maxLen) (hk:∀y∈x.qQ,Zms y):Zms x
def ZIZ(x:ZN):Prop:=x.qG.size<=maxLen/\∀s∈x.names,s.size<=maxLen
mutual
inductive Zhp:Term->Prop
 | mk {x:Term} (l:wfI x.op) (h:x.qG.size<=maxLen) (r:∀y∈x.args,Zms y) (q:∀y∈x.qJ,ZeF y) (p:∀y∈x.qQ,Zhp y):Zhp x
inductive ZeF:Za->Prop
 | mk {x:Za} (l:wfI x.qX) (h:x.qG.size<=maxLen) (r:∀y∈x.qV,ZIZ y) (q:∀y∈x.qJ,ZeF y) (p:∀y∈x.qQ,Zhp y):ZeF x
end
def ZQ3:Uw XX.P (Qh .i64) wfI 34:=.int Kq0 Kq0
def ZQ4:Uw XX.P (Qh .i64) wfI 28:=.int Kq0 Kq0
def ZLx:Uw XX.P (Qh .i64) wfI 127:=.int Kq0 Kq0
def ZW6:Uw XX.P (Qh .i64) wfI 3:=.int Kq0 Kq0
def ZAr:Uw XX.P ZH (fun s=>s.size<=maxLen) 9:=.str Kq0 Kq0
def ZQ2:Uw XX.P (Yh ZH) (fun l=>∀x∈l,x.size<=maxLen) 22:=.slice Kq0 Kq0 ZAr
def ZLv:Uw XX.P ZO ZIZ 136:=⟨by kernel_rfl,fun a=>by
 obtain⟨l,rfl,x,h⟩:=a.Znh Tryz.underlying136
 match l,x,h with
 | [x0,x1],_,h=>
   obtain⟨p0,q,B,t,C⟩:=ZAr.2 (h 0 x0 _ rfl rfl);obtain⟨p1,p,A,r,y⟩:=ZQ2.2 (h 1 x1 _ rfl rfl);exact⟨p1,⟨q,p⟩,by simp only[Kf,GQ,B,A];rfl,⟨t,r⟩,fun V=>y V⟩⟩
def ZLw:Uw XX.P (Yh ZO) (fun l=>∀x∈l,ZIZ x) 128:=.slice Kq0 Kq0 ZLv
def Zs8(h:H)(cs:U N){l:Type}(e:U8 l)(V'':l->Prop):Prop:=∃p x,cs=e.sh p x/\V'' x/\∀V,e.F V h p x
structure ZE0(h:H)(t:TypeId)(cs:List Value):Prop where
 fe:t=36->Zs8 h cs Zi Zms
 fel:t=29->Zs8 h cs (Yh Zi) (fun l=>∀x∈l,Zms x)
 ft:t=33->Zs8 h cs Zt Zhp
 ftl:t=31->Zs8 h cs (Yh Zt) (fun l=>∀x∈l,Zhp x)
 fc:t=130->Zs8 h cs Zc ZeF
 fcl:t=30->Zs8 h cs (Yh Zc) (fun l=>∀x∈l,ZeF x)
def ZAF{h:H}{p:Type}{e:U8 p}{V'':p->Prop}:Zs8 h [V8] (Yh e) (fun l=>∀x∈l,V'' x):=⟨(none,0),[],rfl,by simp,fun _=>Sl.nil⟩
def ZpJ{h:H}{p:Type}{e:U8 p}{V'':p->Prop}:Zs8 h [.slice (some ⟨0,0,some 0⟩) 0 0] (Yh e) (fun l=>∀x∈l,V'' x):=
 ⟨(some ⟨0,0,some 0⟩,0),[],rfl,by simp,fun _=>⟨by simp,by simp,.inr (.inl ⟨rfl,rfl⟩),.inl rfl⟩⟩
def Zz9{E:Type}{h:H}{t:J}{cs:U N}{d:DataW E}(a:AR XX.P h t cs d):ZE0 h t cs:=by
 have no:∀{t:J}{cs:U N},t≠36->t≠29->t≠33->t≠31->t≠130->t≠30->ZE0 h t cs:=fun a b c d e f=>⟨fun x=>absurd x a,fun x=>absurd x b,fun x=>absurd x c,fun x=>absurd x d,fun x=>absurd x e,fun x=>absurd x f⟩;have p:=Tryz.underlying36;have C:=Tryz.underlying29;have q:=Tryz.underlying33;have A:=Tryz.underlying31;have Zz7:=Tryz.underlying130;have B:=Tryz.underlying30
 have Zoz:∀{t:J}{u:TypeDesc},XX.P.underlying t=some u->(∀e,u≠.slice e)->(∀f,u≠.struct f)->∀cs,ZE0 h t cs:=by
  intro t u hu h1 h2 cs;refine no ?_ ?_ ?_ ?_ ?_ ?_<;>(rintro rfl);·rw[show XX.P.underlying 36=_ from p]at hu;cases hu;exact h2 _ rfl
  ·rw[show XX.P.underlying 29=_ from C]at hu;cases hu;exact h1 _ rfl
  ·rw[show XX.P.underlying 33=_ from q]at hu;cases hu;exact h2 _ rfl
  ·rw[show XX.P.underlying 31=_ from A]at hu;cases hu;exact h1 _ rfl
  ·rw[show XX.P.underlying 130=_ from Zz7]at hu;cases hu;exact h2 _ rfl
  ·rw[show XX.P.underlying 30=_ from B]at hu;cases hu;exact h1 _ rfl
 induction a with
 | bool hu=>exact Zoz hu (fun _=>by simp) (fun _=>by simp) _
 | int hu _=>exact Zoz hu (fun _=>by simp) (fun _=>by simp) _
 | string hu _=>exact Zoz hu (fun _=>by simp) (fun _=>by simp) _
 | nil hu=>
   refine⟨?_,fun _=>ZAF,?_,fun _=>ZAF,?_,fun _=>ZAF⟩;·rintro rfl;rw[show XX.P.underlying 36=_ from p]at hu;cases hu
   ·rintro rfl;rw[show XX.P.underlying 33=_ from q]at hu;cases hu
   ·rintro rfl;rw[show XX.P.underlying 130=_ from Zz7]at hu;cases hu
 | empty hu=>
   refine⟨?_,fun _=>ZpJ,?_,fun _=>ZpJ,?_,fun _=>ZpJ⟩;·rintro rfl;rw[show XX.P.underlying 36=_ from p]at hu;cases hu
   ·rintro rfl;rw[show XX.P.underlying 33=_ from q]at hu;cases hu
   ·rintro rfl;rw[show XX.P.underlying 130=_ from Zz7]at hu;cases hu
 | slice hu D hc F y _ ih=>
   refine⟨?_,?_,?_,?_,?_,?_⟩;·rintro rfl;rw[show XX.P.underlying 36=_ from p]at hu;cases hu
   ·rintro rfl;rw[show XX.P.underlying 29=_ from C]at hu;cases hu;exact ZtL D hc F (fun x r=>(y x r).trans Kq0) fun x r=>(ih x r).fe rfl
   ·rintro rfl;rw[show XX.P.underlying 33=_ from q]at hu;cases hu
   ·rintro rfl;rw[show XX.P.underlying 31=_ from A]at hu;cases hu;exact ZtL D hc F (fun x r=>(y x r).trans Kq0) fun x r=>(ih x r).ft rfl
   ·rintro rfl;rw[show XX.P.underlying 130=_ from Zz7]at hu;cases hu
   ·rintro rfl;rw[show XX.P.underlying 30=_ from B]at hu;cases hu;exact ZtL D hc F (fun x r=>(y x r).trans Kq0) fun x r=>(ih x r).fc rfl
 | @struct t fs G hu D y l ih=>
   refine⟨?_,?_,?_,?_,?_,?_⟩
   ·rintro rfl;rw[show XX.P.underlying 36=_ from p]at hu;cases hu;match G,D,l,ih with
    | [x0,x1,x2,x3],_,l,ih=>
      obtain⟨p0,Q,e0,X,f0⟩:=ZQ3.2 (l 0 x0 _ rfl rfl);obtain⟨p1,L,e1,W,f1⟩:=ZW6.2 (l 1 x1 _ rfl rfl);obtain⟨p2,K,e2,T,f2⟩:=ZAr.2 (l 2 x2 _ rfl rfl);obtain⟨p3,I,e3,S,f3⟩:=(ih 3 x3 _ rfl rfl).fel rfl;exact⟨p3,⟨Q,L,K,I⟩,by simp only[Kf,GQ,e0,e1,e2,e3];rfl,.mk X W T S,fun V=>Yd.2 (f3 V)⟩
   ·rintro rfl;rw[show XX.P.underlying 29=_ from C]at hu;cases hu
   ·rintro rfl;rw[show XX.P.underlying 33=_ from q]at hu;cases hu;match G,D,l,ih with
    | [x0,x1,x2,x3,x4],_,l,ih=>
      obtain⟨p0,Q,e0,X,f0⟩:=ZQ4.2 (l 0 x0 _ rfl rfl);obtain⟨p1,L,e1,W,f1⟩:=ZAr.2 (l 1 x1 _ rfl rfl);obtain⟨p2,K,e2,T,f2⟩:=(ih 2 x2 _ rfl rfl).fel rfl;obtain⟨p3,I,e3,S,f3⟩:=(ih 3 x3 _ rfl rfl).fcl rfl;obtain⟨p4,y4,e4,v4,f4⟩:=(ih 4 x4 _ rfl rfl).ftl rfl;exact⟨(p2,p3,p4),⟨Q,L,K,I,y4⟩,by simp only[Kf,GQ,e0,e1,e2,e3,e4];rfl,.mk X W T S v4,fun V=>Xa.2 ⟨f2 V,f3 V,f4 V⟩⟩
   ·rintro rfl;rw[show XX.P.underlying 31=_ from A]at hu;cases hu
   ·rintro rfl;rw[show XX.P.underlying 130=_ from Zz7]at hu;cases hu;match G,D,l,ih with
    | [x0,x1,x2,x3,x4],_,l,ih=>
      obtain⟨p0,Q,e0,X,f0⟩:=ZLx.2 (l 0 x0 _ rfl rfl);obtain⟨p1,L,e1,W,f1⟩:=ZAr.2 (l 1 x1 _ rfl rfl);obtain⟨p2,K,e2,T,f2⟩:=ZLw.2 (l 2 x2 _ rfl rfl);obtain⟨p3,I,e3,S,f3⟩:=(ih 3 x3 _ rfl rfl).fcl rfl;obtain⟨p4,y4,e4,v4,f4⟩:=(ih 4 x4 _ rfl rfl).ftl rfl;exact⟨(p2,p3,p4),⟨Q,L,K,I,y4⟩,by simp only[Kf,GQ,e0,e1,e2,e3,e4];rfl,.mk X W T S v4,fun V=>ZK.2 ⟨f2 V,f3 V,f4 V⟩⟩
   ·rintro rfl;rw[show XX.P.underlying 30=_ from B]at hu;cases hu
def ZQ5:Uw XX.P Zi Zms 36:=⟨by kernel_rfl,fun a=>(Zz9 a).fe rfl⟩
def ZQ1:Uw XX.P Zt Zhp 33:=⟨by kernel_rfl,fun a=>(Zz9 a).ft rfl⟩
def ZJb:U J:=[33,28,9,29,30,31,36,34,3,130,127,128,136,22]
end
section
open Go.ZU Go.Lf
def Zek:maxLen=BB:=by decide
def Zt7{V:Nat}{h:H}{p:SlP}{x:Zf}(s:Zd3 V h p x):Zms x->Lo (.ex x):=by
 induction s with|@mk p x t r _ ih=>
   intro v;have⟨_,_,ht,hv⟩:=v;intro y l;rw[pre_eq]at l;rcases K2.1 l with rfl|l
   .exact⟨by rw[<-Zek];exact ht,r.max⟩
   have⟨k,hkk,l⟩:=Q1.1 l;obtain⟨z,q,rfl⟩:=JT.1 hkk;have⟨i,hi⟩:=GI q;exact ih i z hi (hv z q) y l
def ZGv{V:Nat}{h:H}{a:O Addr}{c:Nat}{l:U Zf}(s:Sl Zi V h a c l)(v:∀x∈l,Zms x):∀x∈l,Lo (.ex x):=fun x p=>by
 have⟨ps,_,hF⟩:=Sl.iff.1 s;have⟨i,hi⟩:=GI p;exact Zt7 (hF i x hi) (v x p)
def ZGu{V:Nat}{h:H}{a:O Addr}{c:Nat}{l:U ZN}(s:Sl ZO V h a c l)(v:∀x∈l,ZIZ x):∀m∈l,m.qG.size<=BB/\m.names.length<=BB/\∀s∈m.names,s.size<=BB:=fun m p=>by
 have⟨ps,_,hF⟩:=Sl.iff.1 s;have⟨i,hi⟩:=GI p;have f:Sl ZH V h (ps i).1 (ps i).2 m.names:=hF i m hi;have:=v m p;rw[<-Zek];exact⟨this.1,f.max,this.2⟩
def ZA5{x:Term}(h1:x.qG.size<=BB)(h2:x.args.length<=BB)(p:x.qJ.length<=BB)(l:x.qQ.length<=BB)(a:∀y∈x.args,Lo (.ex y))(b:∀y∈x.qJ,Lo (.cl y))(c:∀y∈x.qQ,Lo (.pr y)):Lo (.pr x):=by
 intro y h;rw[pre_eq]at h;rcases K2.1 h with rfl|h
 .exact⟨h1,h2,p,l⟩
 have⟨k,hk,h⟩:=Q1.1 h;simp only[ZP,Q3,JT]at hk;rcases hk with(⟨z,hz,rfl⟩|⟨z,hz,rfl⟩) | ⟨z,hz,rfl⟩
 .exact a z hz y h
 .exact b z hz y h
 exact c z hz y h
def ZA6{x:Za}(h1:x.qG.size<=BB)(h2:x.qV.length<=BB)(q:x.qJ.length<=BB)(p:x.qQ.length<=BB)(a:∀m∈x.qV,m.qG.size<=BB/\m.names.length<=BB/\∀s∈m.names,s.size<=BB)(b:∀y∈x.qJ,Lo (.cl y))(c:∀y∈x.qQ,Lo (.pr y)):Lo (.cl x):=by
 intro y h;rw[pre_eq]at h;rcases K2.1 h with rfl|h
 .exact⟨h1,h2,q,p,a⟩
 have⟨k,hk,h⟩:=Q1.1 h;simp only[ZP,Q3,JT]at hk;rcases hk with⟨z,l,rfl⟩|⟨z,l,rfl⟩
 .exact b z l y h
 exact c z l y h
def ZGt{V:Nat}{h:H}{p:TmP}{x:Term}(s:JO V h p x):Zhp x->Lo (.pr x):=
 JO.rec (motive_1:=fun p x _=>Zhp x->Lo (.pr x)) (motive_2:=fun p x _=>ZeF x->Lo (.cl x))
  (fun{p x} C pk q B A _ _ t r v=>by
    have⟨_,ht,va,vd,vk⟩:=v
    exact ZA5 (by rw[<-Zek];exact ht) q.max B.max A.max (ZGv q va)
     (fun y l=>by have⟨i,hi⟩:=GI l;exact t i y hi (vd y l)) (fun y l=>by have⟨i,hi⟩:=GI l;exact r i y hi (vk y l)))
  (fun{p x} C pk q B A _ _ t r v=>by
    have⟨_,ht,va,vd,vk⟩:=v
    exact ZA6 (by rw[<-Zek];exact ht) q.max B.max A.max (ZGu q va)
     (fun y l=>by have⟨i,hi⟩:=GI l;exact t i y hi (vd y l)) (fun y l=>by have⟨i,hi⟩:=GI l;exact r i y hi (vk y l))) s
def Zld(t:Term)(x:Zf):Nat:=10000000000000000000+((pre (.pr t)).length+(pre (.ex x)).length)
end
section
def ZdM(q:U (Y×Y))(m:NM):NM:=q.foldl (fun m p=>Yu m p.1 (JR p.2)) m
def Zio:∀(q:U (Y×Y))(m:NM)(x:Y),ZC (ZdM q m) x=match ZC (q.map fun p=>(p.1,JR p.2)).reverse x with|some v=>some v|none=>ZC m x
 | [],m,x=>by simp[ZdM,ZC,Yq]
 | p::q,m,x=>by
   show ZC (ZdM q (Yu m p.1 (JR p.2))) x=_;rw[Zio q,WZ,G7,List.reverse_cons,Uq];cases ZC (q.map fun p=>(p.1,JR p.2)).reverse x with|some v=>rfl|none=>
     rw[Zbs];by_cases h:x=p.1
     .rw[if_pos h,if_pos h.symm]
     rw[if_neg h,if_neg fun e=>h e.symm];rfl
def Zmb{F:Nat}(B:10000000000000000000<=F)(l to:U Y)(x:l.length=to.length)(hn:l.length<=100000):loop F (ZaG l to) (0,[])=some (ZdM (l.zip to) []):=by
 have q:(l.zip to).length=l.length:=by rw[List.length_zip,<-x,Nat.min_self]
 refine Yw (body:=ZaG l to) (fun(k:Nat)(m:NM)=>((k:Int),m)) (l.zip to) (fun _ _=>True) (fun rest m=>some (ZdM rest m)) (F:=F) ?_ ?_ Vb [] trivial;.intro m t _;rw[q];simp only[ZaG,Yi,Cq0];rfl
 intro k p rest m t A r y _ ih;rw[q]at r;have h:(l.zip to)[k]? =some p:=by rwa[Zdq]at y
 rw[List.getElem?_zip_eq_some]at h;simp only[ZaG,Yc r,Cq1,Zdq,h.1,h.2,Bq0,Zsj];rw[Ja Vb];exact ih _ trivial
def Yb(m:MB):U Y:=m.map (·.1)
def JI(m:MB):Prop:=∀p∈m,p.2=true
def JI.get{m:MB}(h:JI m)(x:Y):(ZC m x).getD false=decide (x∈Yb m):=by
 have p:=Kt (l:=m) (k:=x);cases e:ZC m x with
 | none=>
   rw[e]at p;rw[decide_eq_false (show ¬ x∈Yb m from fun z=>(by have:=p.2 z;cases this))];rfl
 | some v=>
   rw[e]at p;rw[decide_eq_true (show x∈Yb m from p.1 rfl)];exact h _ (Zbr e)
def JI.Yu{m:MB}(h:JI m)(x:Y):JI (Yu m x true):=fun p l=>by
 rcases Go.ZU.ZkD l with q|q
 .exact h p q
 exact q
def Ka(m:MB):Nat->MB×U Y
 | 0=>(m,[])
 | n+1=>((Ka (Yu m (Qq (Yb m)) true) n).1,Qq (Yb m)::(Ka (Yu m (Qq (Yb m)) true) n).2)
def ZkP{m:MB}(h:m.length<=800000):Yb (Yu m (Qq (Yb m)) true)=Yb m++[Qq (Yb m)]:=by have:=(ZiZ (l:=Yb m) (by unfold Yb;rw[G5];omega)).2;unfold Yb at this ⊢;rw[Zen,if_neg this]
def Zal{m:MB}(h:m.length<=800000):(Yu m (Qq (Yb m)) true).length=m.length+1:=by have:=congrArg List.length (ZkP h);unfold Yb at this;rw[Ks,G5,G5,List.length_singleton]at this;exact this
def Zpi:∀(n:Nat)(m:MB),m.length+n<=800000->(Ka m n).2.length=n/\(Ka m n).1.length=m.length+n
 | 0,m,_=>⟨rfl,rfl⟩
 | n+1,m,h=>by
   have l:=Zal (m:=m) Vb;have⟨a,b⟩:=Zpi n (Yu m (Qq (Yb m)) true) Vb;exact⟨by show(Ka _ n).2.length+1=_;omega,by show(Ka _ n).1.length=_;omega⟩
def Zpj:∀(n:Nat)(m:MB),JI m->JI (Ka m n).1
 | 0,m,h=>h
 | n+1,m,h=>Zpj n _ (h.Yu _)
def ZDf{F:Nat}(q:10000000000000000000<=F){m:MB}(h:JI m)(p:m.length<=800000):ZyO F m=some (Yu m (Qq (Yb m)) true,Qq (Yb m)):=by unfold ZyO;rw[ZC6 (l:=Yb m) h.get Vb (by unfold Yb;rw[G5];omega)];rfl
def Zw6{F:Nat}(A:10000000000000000000<=F)(m:MB)(c:U NM)(names:U Y)(l:O MB)(h:JI m)(t:m.length+names.length<=800000)(hn:names.length<=100000):Ze7 F m c names l=some (Ka m names.length):=by
 unfold Ze7
 have:=Yw (body:=ZlQ F names) (fun(k:Nat)(s:MB×U Y)=>((k:Int),s.1,s.2)) names (fun rest s=>JI s.1/\s.1.length+rest.length<=800000/\s.2.length+rest.length<=100000)
  (fun rest s=>some ((Ka s.1 rest.length).1,s.2++(Ka s.1 rest.length).2)) (F:=F) ?_ ?_ Vb (m,[]) ⟨h,t,by simpa using hn⟩
 .exact this
 .intro s p _;simp only[ZlQ,Yi,Cq0,GK,Ka,Ge]
 intro k x rest s p B y C q ih;have⟨p1,p2,p3⟩:=q;simp only[Kx]at p2 p3;have r:=Zal (m:=s.1) Vb;simp only[ZlQ,Yc y,Cq1,ZDf A p1 (show s.1.length<=800000 by omega),Bq0];rw[ZVt Vb Vb,Bq0,Ja Vb];have:=ih (Yu s.1 (Qq (Yb s.1)) true,s.2++[Qq (Yb s.1)]) ⟨p1.Yu _,by simp only;omega,by simp only[Ks,List.length_singleton];omega⟩;refine this.trans ?_;simp only[Kx,Ka,G9,List.singleton_append]
def bdC:BF MB:=fun h _ names _=>Ka h names.length
def IC(k:Nat)(h:MB):Prop:=JI h/\h.length+k<=800000
def Zj6{R:U NM->NM->Prop}{c:U NM}{env:NM}{B r:U Y}{q:Y->Z}(h:CE R c env B r q){l to:U Y}(y:l.length=to.length)(t:R (ZdM (l.zip to) []::c) (ext env l to)):CE R (ZdM (l.zip to) []::c) (ext env l to) (B++l) (r++l) (Jc q l):=
 Zvy h y (fun x=>by
  rw[Zio];cases ZC ((l.zip to).map fun p=>(p.1,JR p.2)).reverse x<;>simp[ZC,Yq]) t
def ZFc{F:Nat}(q:10000000000000000000<=F):BE F IC (fun _ _=>True) (U1 F (Ze7 F)) (fun _ _=>none) (fun _=>none) bdC where
 mono:=fun k j l h=>⟨h.1,by have:=h.2;omega⟩
 t:=fun l c env B D A t k x _ _ _ _ _ C y=>by
  have⟨h1,h2⟩:=y;have⟨a,b⟩:=Zpi (XQ t.qJ).length l Vb;refine⟨ZdM ((XQ t.qJ).zip (Ka l (XQ t.qJ).length).2) [],?_,Zj6 x a.symm trivial,Zpj _ _ h1,?_⟩
  .unfold U1;rw[Zw6 q l c (XQ t.qJ) none h1 Vb Vb,Bq0,Zmb q _ _ a.symm Vb];rfl
  show(Ka l (XQ t.qJ).length).1.length+k<=_;omega
 r:=fun l c env B D A p k x _ _ _ _ _ C y=>by
  have⟨h1,h2⟩:=y;have⟨a,b⟩:=Zpi (ZA p.qV).length l Vb;refine⟨ZdM ((ZA p.qV).zip (Ka l (ZA p.qV).length).2) [],?_,Zj6 x a.symm trivial,Zpj _ _ h1,?_⟩
  .unfold U1;rw[Zw6 q l c (ZA p.qV) none h1 Vb Vb,Bq0,Zmb q _ _ a.symm Vb];rfl
  show(Ka l (ZA p.qV).length).1.length+k<=_;omega
def ZfW:∀(l:U Evt)(m:MB),JI m->JI (YZ l m)
 | [],m,h=>h
 | e::l,m,h=>by
   show JI (YZ l (note m e.2 e.1));refine ZfW l _ ?_;unfold note;by_cases h1:e.1∈e.2
   .rw[if_pos h1];exact h
   rw[if_neg h1];exact h.Yu _
def tk0(t:Term):MB:=YZ (WB (.pr t) []) []
def ZLi{t:Term}(hn:(pre (.pr t)).length<=60):JI (tk0 t)/\(tk0 t).length<=60:=by have⟨_,_,k3⟩:=UW (WB (.pr t) []) [] List.nodup_nil;have l:=ZIx (.pr t) [];refine⟨ZfW _ _ fun p h=>(by cases h),?_⟩;unfold tk0;simp only[GK]at k3;omega
def ZpS(t:Term):Term:=(Wt bdC (tk0 t) [] t).2
def ZsH{F:Nat}(l:10000000000000000000<=F)(t:Term)(p:(pre (.pr t)).all Q6=true)(hn:(pre (.pr t)).length<=60):ZuD F t=some (ZpS t):=by have⟨a,b⟩:=ZLi hn;unfold ZuD;rw[(ZbW l t p hn).1,Bq0];have h:=(ZtD l (ZFc l) 60 t p hn Vc F Vb [] (tk0 t) [[]] [] [] [] _ 0 Zvx (by simp only[Kx,GK];omega) (by simp;omega) ⟨a,by omega⟩).1;rw[(Zxx 60).1 t hn _ fun _=>rfl]at h;have q:Ze8 F (U1 F (Ze7 F)) (fun _ _=>none) (fun _=>none) (([],tk0 t),[[]],t)=_:=h;show Option.map _ ((Ze8 F (U1 F (Ze7 F)) (fun _ _=>none) (fun _=>none) (([],tk0 t),[[]],t)).bind okP)=_;rw[q];rfl
inductive WsP{σ α:Type}(P:σ->α->σ×α->Prop):σ->List α->σ×List α->Prop
 | nil {s:σ}:WsP P s [] (s,[])
 | cons {s:σ} {a:α} {l:List α} {r:σ×α} {q:σ×List α} (h:P s a r) (t:WsP P r.1 l q):WsP P s (a::l) (q.1,r.2::q.2)
def ZEZ{σ:Type}(p:BF σ)(B:σ->NM->Term->σ×Term->Prop)(F:σ->NM->Za->σ×Za->Prop)
 (Q:∀(s:σ)(env en:NM)(t:Term)(s1:σ)(to:U Y)(rd:σ×U Za)(rk:σ×U Term),t.op=4->p s env (XQ t.qJ) (.pr t)=(s1,to)->en=ext env (XQ t.qJ) to ->
   WsP (fun s c r=>F s en c r) s1 t.qJ rd->WsP (fun s k r=>B s en k r) rd.1 t.qQ rk->B s env t (rk.1,.mk t.op (tx0 env t.qG) (t.args.map (QK env)) rd.2 rk.2))
 (he:∀(s:σ)(env:NM)(t:Term)(rk:σ×U Term),t.op≠4->WsP (fun s k r=>B s env k r) s t.qQ rk->B s env t (rk.1,.mk t.op (tx0 env t.qG) (t.args.map (QK env)) [] rk.2))
 (P:∀(s:σ)(env:NM)(c:Za)(rd:σ×U Za)(rk:σ×U Term),c.qX=2->WsP (fun s d r=>F s env d r) s c.qJ rd->WsP (fun s k r=>B s env k r) rd.1 c.qQ rk->F s env c (rk.1,.mk c.qX (Q5 env c.qG) [] rd.2 rk.2))
 (L:∀(s:σ)(env en:NM)(c:Za)(s1:σ)(to:U Y)(rk:σ×U Term),c.qX≠2->p s env (ZA c.qV) (.cl c)=(s1,to)->en=ext env (ZA c.qV) to ->
   WsP (fun s k r=>B s en k r) s1 c.qQ rk->F s env c (rk.1,.mk c.qX E0 (c.qV.map (Zaa env en)) [] rk.2)):
 (∀t s env,B s env t (Wt p s env t))/\(∀c s env,F s env c (Wc p s env c)):=by
 have C:∀n,(∀t,pz (.pr t)<n->∀s env,B s env t (Wt p s env t))/\(∀c,pz (.cl c)<n->∀s env,F s env c (Wc p s env c)):=by
  intro n;induction n with
  | zero=>exact⟨fun t h=>absurd h (Nat.not_lt_zero _),fun t h=>absurd h (Nat.not_lt_zero _)⟩
  | succ n ih=>
    have A:∀(l:U Term),(∀x∈l,pz (.pr x)<n)->∀s env,WsP (fun s k r=>B s env k r) s l (Wts p s env l):=by
     intro l;induction l with|nil=>intro _ s env;rw[Za3];exact .nil|cons x l D=>intro h s env;rw[KH];exact .cons (ih.1 x (h x (by simp)) s env) (D (fun y K=>h y (Kd _ K)) _ env)
    have G:∀(l:U Za),(∀x∈l,pz (.cl x)<n)->∀s env,WsP (fun s k r=>F s env k r) s l (Wcs p s env l):=by
     intro l;induction l with|nil=>intro _ s env;rw[Zcb];exact .nil|cons x l D=>intro h s env;rw[ZbI];exact .cons (ih.2 x (h x (by simp)) s env) (D (fun y K=>h y (Kd _ K)) _ env)
    constructor
    .intro t hn s env;by_cases I:t.op=4
     .have E:inT p s env t=((p s env (XQ t.qJ) (.pr t)).1,ext env (XQ t.qJ) (p s env (XQ t.qJ) (.pr t)).2):=by unfold inT;rw[I];rfl
      rw[ZiB I,E];exact Q s env _ t _ _ _ _ I rfl rfl (G _ (fun x q=>by have:=Wq (XR q);omega) _ _) (A _ (fun x q=>by have:=Wq (XB q);omega) _ _)
     rw[ZeD I];exact he s env t _ I (A _ (fun x q=>by have:=Wq (XB q);omega) _ _)
    intro c hn s env;by_cases h2:c.qX=2;.rw[ZbJ h2];exact P s env c _ _ h2 (G _ (fun x q=>by have:=Wq (Xn q);omega) _ _) (A _ (fun x q=>by have:=Wq (YU q);omega) _ _)
    have E:inC p s env c=((p s env (ZA c.qV) (.cl c)).1,ext env (ZA c.qV) (p s env (ZA c.qV) (.cl c)).2):=by
     unfold inC;have:(c.qX==2)=false:=by simpa using h2
     rw[this];rfl
    rw[ZeE h2,E];exact L s env _ c _ _ _ h2 rfl rfl (A _ (fun x q=>by have:=Wq (YU q);omega) _ _)
 exact⟨fun t=>(C _).1 t (Nat.lt_succ_self _),fun c=>(C _).2 c (Nat.lt_succ_self _)⟩
def Zra:∀(xs:U Y)(h:Y->Z),ZoN h xs=true↔xs.Nodup/\∀x∈xs,h x=false
 | [],h=>by simp[ZoN]
 | x::xs,h=>by
   rw[ZoN,Ba0,Zra xs,GA,Bool.not_eq_true']
   constructor
   .rintro⟨h1,h2,p⟩;refine⟨⟨fun q=>?_,h2⟩,fun y l=>?_⟩
    .have:=p x q;rw[Jx]at this;simp at this
    rcases K2.1 l with rfl|l
    .exact h1
    have:=p y l;rw[Jx]at this;exact this.1
   rintro⟨⟨h1,h2⟩,p⟩;refine⟨p x (by simp),h2,fun y l=>?_⟩;rw[Jx,decide_eq_false_iff_not];exact⟨p y (Kd _ l),fun e=>h1 (e▸l)⟩
def ZE9:∀(es:U (Y×Z4))(f:Y->O Z4),JW f es=true↔es.Pairwise (fun a b=>a.1=b.1->a.2=b.2)/\∀e∈es,∀v,f e.1=some v->v=e.2
 | [],f=>by simp[JW]
 | e::es,f=>by
   rw[JW,Ba0,ZE9 es,GV]
   have q:okE f e=true↔∀v,f e.1=some v->v=e.2:=by
    unfold okE;cases r:f e.1 with|none=>simp|some v=>simp[eqS]
   rw[q];constructor
   .rintro⟨h1,h2,p⟩;refine⟨⟨fun b h he=>?_,h2⟩,fun b h v hv=>?_⟩;.exact p b h e.2 (by unfold upd;rw[if_pos he.symm])
    rcases K2.1 h with rfl|h
    .exact h1 v hv
    by_cases l:b.1=e.1;.have:=p b h e.2 (by unfold upd;rw[if_pos l]);rw[l]at hv;rw[h1 v hv,this]
    exact p b h v (by unfold upd;rw[if_neg l];exact hv)
   rintro⟨⟨h1,h2⟩,p⟩;refine⟨p e (by simp),h2,fun b h v hv=>?_⟩;unfold upd at hv;by_cases l:b.1=e.1;.rw[if_pos l]at hv;cases hv;exact h1 b h l.symm
   rw[if_neg l]at hv;exact p b (Kd _ h) v hv
abbrev Sg:=Y×U (Y×Nat)
def mq(m:ZN):Y×Nat:=(m.qG,m.names.length)
def sg(sp:Spt):Sg:=(sp.1,(jns sp.2).map mq)
def evS:Nat->U Sg->U (Y×Z4)
 | _,[]=>[]
 | a,g::r=>g.2.map (fun q=>(q.1,(⟨(a:Int),(q.2:Int)⟩:Z4)))++evS (a+1) r
def Zxl:∀(l:U Spt)(a:Nat),evJ a l=evS a (l.map sg)
 | [],a=>rfl
 | sp::l,a=>by
   rw[evJ,G7,evS,Zxl l];unfold sg;rw[Gf]
   rfl
def AgS(g:U Sg):Prop:=((g.drop 1).map (·.1)).Nodup/\(evS 0 g).Pairwise (fun a b=>a.1=b.1->a.2=b.2)/\∀e∈evS 0 g,e.1∉(g.drop 1).map (·.1)
def sgs(l:U Za):U Sg:=((E0,l)::l.flatMap Qa).map sg
def ZhF(l:U Za):(sgs l).drop 1=(l.flatMap Qa).map sg:=rfl
def ZI4(l:U Za):AgW l=true↔AgS (sgs l):=by
 unfold AgW AgS;rw[Ba0,Ba0,Zra,ZE9,Zxl,Bool.not_eq_true',List.any_eq_false,ZhF];have e:((l.flatMap Qa).map sg).map (·.1)=ZaT l:=by unfold ZaT;rw[Gf];rfl
 rw[e];constructor;.rintro⟨⟨⟨h1,_⟩,⟨h2,_⟩⟩,p⟩;exact⟨h1,h2,fun x h=>by have:=p x h;simpa using this⟩
 rintro⟨h1,h2,p⟩;exact⟨⟨⟨h1,fun _ _=>rfl⟩,h2,fun _ _ _ z=>by cases z⟩,fun x h=>by simpa using p x h⟩
def rnS(f:Y->Y)(g:Sg):Sg:=(f g.1,g.2.map fun q=>(f q.1,q.2))
def txS(g:U Sg):U Y:=(g.drop 1).map (·.1)++(evS 0 g).map (·.1)
def ded:U Y->U Y->U Y
 | acc,[]=>acc
 | acc,x::l=>ded (if x∈acc then acc else acc++[x]) l
def Zxn:∀(l:U Y)(s:CH),(∀x,has s.2 x=decide (x∈s.1))->(l.foldl dj s).1=ded s.1 l
 | [],s,_=>rfl
 | y::l,s,h=>by
   rw[Gm,ded]
   have r:∀z,has (dj s y).2 z=decide (z∈(dj s y).1):=fun z=>by
    unfold dj;cases t:has s.2 y
    .simp only[Cq0];rw[Zbw];show(has s.2 z||decide (z=y))=decide (z∈s.1++[y]);rw[h z];by_cases h1:z∈s.1<;>by_cases h2:z=y<;>simp[h1,h2]
    exact h z
   rw[Zxn l _ r];have q:=h y;unfold dj;by_cases p:y∈s.1
   .rw[q,decide_eq_true p,if_pos p];rfl
   rw[q,decide_eq_false p,if_neg p];rfl
def ZuX{f:Y->Y}:∀(l acc:U Y),(∀x∈acc++l,∀y∈acc++l,f x=f y->x=y)->ded (acc.map f) (l.map f)=(ded acc l).map f
 | [],acc,_=>rfl
 | x::l,acc,hi=>by
   rw[G7,ded,ded]
   have e:f x∈acc.map f↔x∈acc:=by
    rw[JT];constructor;.rintro⟨y,t,h⟩;rw[<-hi y (by simp[t]) x (by simp) h];exact t
    exact fun h=>⟨x,h,rfl⟩
   by_cases p:x∈acc;.rw[if_pos p,if_pos (e.2 p)];exact ZuX l acc fun a r b q=>hi a (by rw[Q3]at r ⊢;rcases r with h|h<;>simp[h]) b (by rw[Q3]at q ⊢;rcases q with h|h<;>simp[h])
   rw[if_neg p,if_neg fun z=>p (e.1 z)];have:=ZuX l (acc++[x]) fun a r b q=>hi a (by simpa using r) b (by simpa using q);rw[List.map_append,G7,List.map_nil]at this;exact this
def Zex:∀(l p:U Y),p.Nodup->(ded p l).Nodup/\∀x,x∈ded p l↔x∈p\/x∈l
 | [],p,h=>⟨h,fun x=>by simp[ded]⟩
 | y::l,p,h=>by
   rw[ded];by_cases q:y∈p
   .rw[if_pos q];have⟨a,b⟩:=Zex l p h;refine⟨a,fun x=>(b x).trans ?_⟩;rw[K2];exact⟨fun z=>z.imp id .inr,fun z=>z.elim .inl fun z=>z.elim (fun e=>.inl (e▸q)) .inr⟩
   rw[if_neg q]
   have⟨a,b⟩:=Zex l (p++[y]) (by
    rw[List.nodup_append];exact⟨h,by simp,fun a t b r e=>q (by rw[J1.1 r]at e;exact e▸t)⟩)
   refine⟨a,fun x=>(b x).trans ?_⟩;rw[Q3,J1,K2]
   constructor
   .rintro((h|h) | h)
    .exact .inl h
    .exact .inr (.inl h)
    exact .inr (.inr h)
   rintro(h|h|h)
   .exact .inl (.inl h)
   .exact .inl (.inr h)
   exact .inr h
def dnS(g:U Sg):U Y:=ded [] (g.flatMap fun q=>q.2.map (·.1))++(g.drop 1).map (·.1)
def Zg8(l:U Za):XQ l=dnS (sgs l):=by
 unfold XQ ZeP dnS;rw[Zxn _ ([],[]) fun x=>rfl,ZhF]
 have p:((E0,l)::l.flatMap Qa).flatMap (fun sp=>(jns sp.2).map (·.qG))=(sgs l).flatMap fun q=>q.2.map (·.1):=by
  unfold sgs;rw[List.flatMap_map];refine congrArg (fun f=>List.flatMap f ((E0,l)::l.flatMap Qa)) (funext fun sp=>?_);unfold sg;rw[Gf];rfl
 have h:((l.flatMap Qa).map sg).map (·.1)=ZaT l:=by unfold ZaT;rw[Gf];rfl
 rw[p,h]
def Zan:∀(g:U Sg)(a:Nat),(evS a g).map (·.1)=g.flatMap fun q=>q.2.map (·.1)
 | [],a=>rfl
 | q::g,a=>by
   rw[evS,List.map_append,Zan g,Kf,Gf];rfl
def Zwn(g:U Sg)(x:Y):x∈dnS g↔x∈txS g:=by unfold dnS txS;rw[Q3,(Zex _ [] List.nodup_nil).2,Q3,Zan];simp only[KB,false_or];exact Or.comm
def Zy2{g:U Sg}(h:AgS g):(dnS g).Nodup:=by have⟨h1,_,h3⟩:=h;unfold dnS;rw[List.nodup_append];have⟨a,b⟩:=Zex (g.flatMap fun q=>q.2.map (·.1)) [] List.nodup_nil;refine⟨a,h1,fun x r y p e=>?_⟩;subst e;have:=(b x).1 r;rw[<-Zan g 0]at this;simp only[KB,false_or]at this;obtain⟨ev,l,rfl⟩:=JT.1 this;exact h3 ev l p
def ZOY{f:Y->Y}{g0:Sg}{g:U Sg}(p:∀x∈txS (g0::g),∀y∈txS (g0::g),f x=f y->x=y):dnS ((g0.1,g0.2.map fun q=>(f q.1,q.2))::g.map (rnS f))=(dnS (g0::g)).map f:=by
 unfold dnS
 have A:((g0.1,g0.2.map fun q=>(f q.1,q.2))::g.map (rnS f)).flatMap (fun q=>q.2.map (·.1))=((g0::g).flatMap fun q=>q.2.map (·.1)).map f:=by
  rw[Kf,Kf,List.flatMap_map,List.map_append,List.map_flatMap];refine congr (congrArg _ ?_) (congrArg (fun k=>List.flatMap k g) (funext fun q=>?_));.rw[Gf,Gf];rfl
  unfold rnS;rw[Gf,Gf];rfl
 have t:(((g0.1,g0.2.map fun q=>(f q.1,q.2))::g.map (rnS f)).drop 1).map (·.1)=(((g0::g).drop 1).map (·.1)).map f:=by
  show(g.map (rnS f)).map (·.1)=(g.map (·.1)).map f;rw[Gf,Gf];rfl
 have r:=ZuX (f:=f) ((g0::g).flatMap fun q=>q.2.map (·.1)) [] fun x l y h=>p x (Gu _ (by rw[Zan];simpa using l)) y (Gu _ (by rw[Zan];simpa using h));rw[A,t,List.map_append,<-r,List.map_nil]
def ZGi(x:Y)(l:NM):∀(c:U NM)(F:Nat),c.length+2<F->ZyP F (c++[l]) x=some (!(Zjk c x).isSome&&(ZC l x).isSome):=by
 intro c;induction c with
 | nil=>
   intro F p;obtain⟨G,rfl⟩:∃G,F=G+1:=⟨F-1,by omega⟩;obtain⟨G,rfl⟩:∃q,G=q+1:=⟨G-1,by omega⟩;unfold ZyP;rw[Jn,Z7];show(bif(ZC l x).isSome then some true else loop (G+1) (Zsa x) [])=_;cases h:(ZC l x).isSome;.rw[Cq0,Z7];rfl
   rfl
 | cons m c ih=>
   intro F p;obtain⟨G,rfl⟩:∃G,F=G+1:=⟨F-1,by omega⟩;have:=ih G (by simp only[Kx]at p;omega);unfold ZyP at this ⊢;rw[Gp,Z7];show(bif(ZC m x).isSome then some (c++[l]).isEmpty else loop G (Zsa x) (c++[l]))=_;have e:Zjk (m::c) x=match ZC m x with|some v=>some v|none=>Zjk c x:=rfl
   rw[e];cases h:ZC m x with|some v=>simp|none=>rw[Option.isSome_none,Cq0,this]
def rnm(mine:MB):MB->U Y->MB×U Y
 | tk,[]=>(tk,[])
 | tk,n::l=>if(ZC mine n).getD false then((rnm mine (Yu tk (Qq (Yb tk)) true) l).1,Qq (Yb tk)::(rnm mine (Yu tk (Qq (Yb tk)) true) l).2) else((rnm mine tk l).1,n::(rnm mine tk l).2)
def Zjx(mine:MB):∀(l:U Y)(p:MB),JI p->p.length+l.length<=800000->(rnm mine p l).2.length=l.length/\(rnm mine p l).1.length<=p.length+l.length/\JI (rnm mine p l).1
 | [],p,h,_=>⟨rfl,K1 _,h⟩
 | n::l,p,h,hl=>by
   simp only[Kx]at hl;unfold rnm;split
   .have⟨a,b,c⟩:=Zjx mine l (Yu p (Qq (Yb p)) true) (h.Yu _) (by rw[Zal Vb];omega);rw[Zal Vb]at b;exact⟨by simp[a],by simp only[Kx];omega,c⟩
   have⟨a,b,c⟩:=Zjx mine l p h Vb;exact⟨by simp[a],by simp only[Kx];omega,c⟩
def ZtR{F:Nat}(r:10000000000000000000<=F)(mine:MB):∀(rest pre l:U Y)(p:MB)(G:Nat),l.length=pre.length->JI p->p.length+rest.length<=800000->pre.length+rest.length<=100000->rest.length<G ->
 loop G (ZnT F (pre++rest) mine) ((pre.length:Int),p,l++rest)=some ((rnm mine p rest).1,l++(rnm mine p rest).2)
 | [],pre,l,p,G,hd,h,hl,hn,hG=>by
   obtain⟨G,rfl⟩:∃A,G=A+1:=⟨G-1,by omega⟩
   rw[Z7,Ge,Ge];simp only[ZnT,Yi,Cq0,rnm,Ge]
 | x::rest,pre,l,p,G,hd,h,hl,hn,hG=>by
   simp only[Kx]at hl hn hG;obtain⟨G,rfl⟩:∃A,G=A+1:=⟨G-1,by omega⟩
   have I:pre.length<(pre++x::rest).length:=by simp
   have K:Yl (pre++x::rest) (pre.length:Int)=some x:=by rw[Zdq];simp
   have q:Yl (l++x::rest) (pre.length:Int)=some x:=by rw[Zdq,<-hd];simp
   have D:∀y,ZoA (l++x::rest) (pre.length:Int) y=(l++[y])++rest:=fun y=>by
    unfold ZoA;rw[Int.toNat_natCast,<-hd,List.set_append_right _ _ Vc,Nat.sub_self,List.set_cons_zero,G9];rfl
   have C:(pre++x::rest)=(pre++[x])++rest:=by rw[G9];rfl
   have P:((pre.length:Int)+1)=((pre++[x]).length:Int):=by simp
   rw[Z7];simp only[ZnT,Yc I,Cq1,K,Bq0];rw[Ja Vb];cases B:(ZC mine x).getD false
   .simp only[Cq0];have:=ZtR r mine rest (pre++[x]) (l++[x]) p G (by simp[hd]) h Vb (by simp;omega) Vb;rw[<-C]at this;have L:l++x::rest=(l++[x])++rest:=by rw[G9];rfl
    rw[L];have t:((pre.length+1:Nat):Int)=((pre++[x]).length:Int):=by simp
    rw[t,this,rnm,B];simp
   simp only[Cq1];have E:=Zal (m:=p) Vb;rw[ZDf r h Vb,Bq0,q,Bq0];simp only[D];have:=ZtR r mine rest (pre++[x]) (l++[Qq (Yb p)]) (Yu p (Qq (Yb p)) true) G (by simp[hd]) (h.Yu _) Vb (by simp;omega) Vb;rw[<-C]at this;have t:((pre.length+1:Nat):Int)=((pre++[x]).length:Int):=by simp
   rw[t,this,rnm,B];simp
def ZLz{F:Nat}(q:10000000000000000000<=F)(names:U Y)(mine l:MB)(h:JI l)(p:l.length+names.length<=800000)(hn:names.length<=100000):loop F (ZnT F names mine) (0,l,names)=some (rnm mine l names):=by have:=ZtR q mine names [] [] l F rfl h p (by simpa using hn) Vb;simpa using this
def bdP(x:Y)(mine:MB)(fr:Part->U Y):BF MB:=fun h env names p=>
 if(ZC env.dropLast x).isSome\/x∉fr p then(h,names) else rnm mine h names
def RP(x:Y)(e:Zf)(c:U NM)(env:NM):Prop:=∃c' inn,c=c'++[[(x,e)]]/\env=inn++[(x,e)]/\(Zjk c' x).isSome=(ZC inn x).isSome
def ZN4{F:Nat}(D:10000000000000000000<=F){x:Y}{e:Zf}{mine l m:MB}{c:U NM}{env:NM}{names:U Y}(B:RP x e c env)(q:c.length+1<F)(h:JI l)(A:l.length+names.length<=800000)(hn:names.length<=100000):
 ZgP F x mine l c names (some m)=some (if(ZC env.dropLast x).isSome\/(ZC m x).getD false=false then(l,names) else rnm mine l names):=by
 obtain⟨c',inn,rfl,rfl,y⟩:=B;have t:=ZGi x [(x,e)] c' F (by simp only[Ks,List.length_singleton]at q;omega);have p:(ZC [(x,e)] x).isSome=true:=by unfold ZC Yq;rw[if_pos rfl];rfl
 rw[p,Bool.and_true,y]at t;unfold ZgP;rw[t,Bq0,List.dropLast_concat];cases E:(ZC inn x).isSome
 .simp only[GM,J0,Cq0,Bq0];cases G:(ZC m x).getD false;.simp
  have C:app 16 ([]:U Y) names=some ([]++names):=Zmi (by
   have:(2*(([]:U Y).length+names.length)+1000)*16<=201000*16:=Gy _ (by simp;omega);exact KK this (by decide))
  have r:ZDg names=some names:=by unfold ZDg;rw[C];rfl
  rw[J0,Cq0,r,Bq0,ZLz D names mine l h A hn,if_neg (by simp)]
 simp
def ZE4{x:Y}{e:Zf}{c:U NM}{env:NM}(h:RP x e c env){l to:U Y}(t:l.length=to.length){m:NM}(r:∀y,ZC m y=ZC ((l.zip to).map fun p=>(p.1,JR p.2)).reverse y):RP x e (m::c) (ext env l to):=by obtain⟨c',inn,rfl,rfl,q⟩:=h;refine⟨m::c',((l.zip to).map fun p=>(p.1,JR p.2)).reverse++inn,rfl,by unfold ext;rw[G9],?_⟩;rw[Uq,<-r x];unfold Zjk;cases ZC m x with|some v=>rfl|none=>exact q
def ZKE{F:Nat}(A:10000000000000000000<=F){x:Y}{e:Zf}{mine l m:MB}{c:U NM}{env:NM}{names:U Y}(B:RP x e c env)(q:c.length+1<F)(h:JI l)(y:l.length+names.length<=800000)(hn:names.length<=100000)
 {r:MB×U Y} (t:(if(ZC env.dropLast x).isSome\/(ZC m x).getD false=false then(l,names) else rnm mine l names)=r):
 U1 F (ZgP F x mine) l c names (some m)=some (r.1,ZdM (names.zip r.2) [])/\names.length=r.2.length/\JI r.1/\r.1.length<=l.length+names.length:=by
 have p:names.length=r.2.length/\JI r.1/\r.1.length<=l.length+names.length:=by
  rw[<-t];split;.exact⟨rfl,h,Nat.le_add_right _ _⟩
  have⟨a,b,d⟩:=Zjx mine names l h y;exact⟨a.symm,d,b⟩
 refine⟨?_,p⟩;unfold U1;rw[ZN4 A B q h y hn,Bq0,t,Zmb A _ _ p.1 hn];rfl
def JI.dec{m:MB}(h:JI m)(x:Y):(ZC m x).getD false=false↔x∉Yb m:=by rw[h.get x];simp
def Zwp:∀(m:MB)(y:Y),(Yb m).Nodup->Zfs m y=m.filter fun p=>!decide (p.1=y)
 | [],y,_=>rfl
 | p::m,y,h=>by
   have hn:p.1∉Yb m/\(Yb m).Nodup:=GA.1 h;have ih:=Zwp m y hn.2;have e:Yq (p::m) y=if p.1=y then some (0,p.2) else(Yq m y).map fun q=>(q.1+1,q.2):=rfl
   unfold Zfs at ih ⊢;rw[e];by_cases l:p.1=y
   .rw[if_pos l,List.filter_cons,decide_eq_true l];show m=_;simp only[J0,Bool.false_eq_true,if_false];rw[List.filter_eq_self.2];intro q t;have:q.1≠y:=fun z=>hn.1 (by rw[l,<-z];exact Gs (f:=(·.1)) t)
    simp[this]
   rw[if_neg l,List.filter_cons,decide_eq_false l];simp only[GM,if_true];cases r:Yq m y with|none=>rw[r]at ih;simp only[Option.map_none];rw[<-ih]|some q=>rw[r]at ih;simp only[GY,List.eraseIdx_cons_succ];rw[<-ih]
def ZH0{F:Nat}(r:10000000000000000000<=F)(names:U Y)(m:MB)(hn:names.length<=100000):loop F (ZfE names) (0,m)=some (names.foldl Zfs m):=by
 refine Yw (body:=ZfE names) (fun(k:Nat)(m:MB)=>((k:Int),m)) names (fun _ _=>True) (fun rest m=>some (rest.foldl Zfs m)) (F:=F) ?_ ?_ Vb m trivial;.intro m h _;simp only[ZfE,Yi,Cq0];rfl
 intro k x rest m h q l p _ ih;simp only[ZfE,Yc l,Cq1,p,Bq0];rw[Ja Vb];exact ih _ trivial
def ZkJ:∀(l:U Y)(m:MB),(Yb m).Nodup->l.foldl Zfs m=m.filter fun p=>!decide (p.1∈l)
 | [],m,_=>(List.filter_eq_self.2 fun p _=>by simp).symm
 | y::l,m,h=>by
   rw[Gm,Zwp m y h,ZkJ l _ ?_,List.filter_filter]
   .congr 1;funext p;by_cases h1:p.1=y<;>by_cases h2:p.1∈l<;>simp[h1,h2]
   unfold Yb at h ⊢;exact h.sublist (List.filter_sublist.map _)
def frP:Part->U Y
 | .pr t=>Yb (YZ (WB (.pr t) []) [])
 | .cl c=>match c.qQ with
   | k::_=>(Yb (YZ (WB (.pr k) []) [])).filter fun s=>!decide (s∈ZA c.qV)
   | []=>[]
 | .ex _=>[]
def Zqj(p:Part):JI (YZ (WB p []) []):=ZfW _ _ fun p h=>by cases h
def ZEq{x:Y}{mine q m:MB}{env:NM}{names:U Y}{p:Part}(h:JI m)(r:x∈Yb m↔x∈frP p):
 (if(ZC env.dropLast x).isSome\/(ZC m x).getD false=false then(q,names) else rnm mine q names)=bdP x mine frP q env names p:=by
 have e:((ZC env.dropLast x).isSome=true\/(ZC m x).getD false=false)↔((ZC env.dropLast x).isSome=true\/x∉frP p):=by rw[h.dec x,r]
 unfold bdP;by_cases l:(ZC env.dropLast x).isSome=true\/(ZC m x).getD false=false;.rw[if_pos l,if_pos (e.1 l)]
 rw[if_neg l,if_neg fun z=>l (e.2 z)]
def Zn9(q:U (Y×Y))(y:Y):ZC (ZdM q []) y=ZC (q.map fun p=>(p.1,JR p.2)).reverse y:=by rw[Zio];cases ZC (q.map fun p=>(p.1,JR p.2)).reverse y<;>simp[ZC,Yq]
def ZPU{F:Nat}(C:10000000000000000000<=F)(x:Y)(e:Zf)(mine:MB):BE F IC (RP x e) (U1 F (ZgP F x mine)) (fun t names=>Zcr F t names) (fun t=>ZbB F t) (bdP x mine frP) where
 mono:=fun k j D h=>⟨h.1,by have:=h.2;omega⟩
 t:=fun D c env B Bn Q t k l K _ E hn _ hl L=>by
  have⟨h1,h2⟩:=L;have X:=Xb (.pr t);have⟨a,b,d,g⟩:=ZKE C l.r Vb h1 Vb Vb (ZEq (p:=.pr t) (Zqj (.pr t)) Iff.rfl) (mine:=mine) (names:=XQ t.qJ);refine⟨_,?_,Zj6 l b (ZE4 l.r b (Zn9 _)),d,by omega⟩;show U1 F (ZgP F x mine) D c (XQ t.qJ) (ZbB F t)=_;rw[(ZbW C t E hn).1];exact a
 r:=fun D c env B Bn Q p k l K _ E hn hf hl L=>by
  have⟨h1,h2⟩:=L;have X:=Xb (.cl p);have⟨_,_,q,hk⟩:=JY (Q2.1 E _ (Xl _));have S:q∈p.qQ:=by rw[hk];simp
  have G:(pre (.pr q)).all Q6=true:=Q2.2 fun y V=>Q2.1 E y (Xi (YU S) V)
  have W:=Yv (YU S);have A:=(UW (WB (.pr q) []) [] List.nodup_nil).1
  have P:JI ((ZA p.qV).foldl Zfs (YZ (WB (.pr q) []) [])):=by
   rw[ZkJ _ _ A];intro z T;exact Zqj (.pr q) z (List.mem_filter.1 T).1
  have I:x∈Yb ((ZA p.qV).foldl Zfs (YZ (WB (.pr q) []) []))↔x∈frP (.cl p):=by
   rw[ZkJ _ _ A];simp only[frP,hk];unfold Yb;rw[List.filter_map];rfl
  have⟨a,b,d,g⟩:=ZKE C l.r Vb h1 Vb Vb (ZEq (p:=.cl p) P I) (mine:=mine) (names:=ZA p.qV);refine⟨_,?_,Zj6 l b (ZE4 l.r b (Zn9 _)),d,by omega⟩;show U1 F (ZgP F x mine) D c (ZA p.qV) (Zcr F p (ZA p.qV))=_
  have:Zcr F p (ZA p.qV)=some ((ZA p.qV).foldl Zfs (YZ (WB (.pr q) []) [])):=by
   unfold Zcr;rw[hk];show((ZbB F q).bind fun m=>loop F (ZfE (ZA p.qV)) (0,m))=_;rw[(ZbW C q G Vb).1,Bq0,ZH0 C _ _ Vb]
  rw[this];exact a
def Zis(x:Y)(e:Zf):Y->Z:=fun y=>decide (y=x) && !(e.op==2)
def Zgn(x:Y)(e:Zf)(y:Y):ZC [(x,e)] y=if y=x then some e else none:=by
 unfold ZC Yq;by_cases h:x=y;.rw[if_pos h,if_pos h.symm];rfl
 rw[if_neg h,if_neg fun z=>h z.symm];rfl
def ZPS{x:Y}{e:Zf}(he:(pre (.ex e)).length<=60):CE (RP x e) [[(x,e)]] [(x,e)] [x] [] (Zis x e):=by
 refine⟨fun y=>?_,fun y v hv=>?_,fun y=>?_,fun y=>?_,fun y l=>(by cases l),⟨[],[],rfl,rfl,rfl⟩⟩;.unfold Zjk;cases ZC [(x,e)] y<;>rfl
 .rw[Zgn]at hv;split at hv;.cases hv;exact he
  cases hv
 .rw[Zgn,J1];split<;>simp[*]
 rw[Zgn];unfold Zis;by_cases h:y=x;.rw[if_pos h,decide_eq_true h];simp
 rw[if_neg h,decide_eq_false h];simp
def ZLF(x:Y)(e:Zf)(mine h:MB)(t:Term):Term:=(Wt (bdP x mine frP) h [(x,e)] t).2
def ZQ9{F:Nat}(p:10000000000000000000<=F)(x:Y){e:Zf}(mine l:MB)(t:Term)(q:(pre (.pr t)).all Q6=true)(hn:(pre (.pr t)).length<=60)(he:(pre (.ex e)).length<=60)(h:JI l)(r:l.length<=80000):
 ∃ws,Ze8 F (U1 F (ZgP F x mine)) (fun t names=>Zcr F t names) (fun t=>ZbB F t) (([],l),[[(x,e)]],t)=some (bif bT (Zis x e) t then .Ym 7 else .ok (ws,ZLF x e mine l t)):=
 ⟨_,(ZtD p (ZPU p x e mine) 60 t q hn Vc F Vb [] l [[(x,e)]] [(x,e)] [x] [] (Zis x e) 0 (ZPS he) (by simp only[Kx,GK];omega) (by simp only[Kx,GK];omega) ⟨h,by omega⟩).1⟩
inductive Al{α β:Type}(R:α->β->Prop):List α->List β->Prop
 | nil:Al R [] []
 | cons {a:α} {b:β} {l:List α} {m:List β} (h:R a b) (t:Al R l m):Al R (a::l) (b::m)
def Al.len{p β:Type}{R:p->β->Prop}{l:U p}{m:U β}(h:Al R l m):m.length=l.length:=by induction h with|nil=>rfl|cons _ _ ih=>rw[Kx,Kx,ih]
def Al.right{q β:Type}{R:q->β->Prop}{l:U q}{m:U β}(h:Al R l m):∀y∈m,∃x∈l,R x y:=by
 induction h with|nil=>intro y p;cases p|cons h t ih=>
   intro y p;rcases K2.1 p with rfl|p
   .exact⟨_,Gg,h⟩
   have⟨x,hx,hr⟩:=ih y p;exact⟨x,Kd _ hx,hr⟩
def Al.map{p β q:Type}{R:p->β->Prop}{l:U p}{m:U β}{f:p->q}{g:β->q}(h:Al R l m)(e:∀x y,R x y->g y=f x):m.map g=l.map f:=by induction h with|nil=>rfl|cons h t ih=>rw[G7,G7,ih,e _ _ h]
def Al.flat{p β q:Type}{R:p->β->Prop}{l:U p}{m:U β}{f:p->U q}{g:β->U q}(h:Al R l m)(e:∀x y,R x y->g y=f x):m.flatMap g=l.flatMap f:=by induction h with|nil=>rfl|cons h t ih=>rw[Kf,Kf,ih,e _ _ h]
def Al.imp{p β:Type}{R S:p->β->Prop}{l:U p}{m:U β}(h:Al R l m)(e:∀x y,x∈l->R x y->S x y):Al S l m:=by induction h with|nil=>exact .nil|cons h t ih=>exact .cons (e _ _ (by simp) h) (ih fun x y q=>e x y (Kd _ q))
abbrev ln(p:Part):Nat:=(pre p).length
def ZkN(p:Part):ln p=((ZP p).map ln).sum+1:=by unfold ln;rw[pre_eq,Kx,List.length_flatMap]
def Znv(t:Term):ln (.pr t)=(t.args.map fun a=>ln (.ex a)).sum+(t.qJ.map fun a=>ln (.cl a)).sum+(t.qQ.map fun a=>ln (.pr a)).sum+1:=by rw[ZkN];simp only[ZP,List.map_append,Gf,List.sum_append];rfl
def ZiQ(c:Za):ln (.cl c)=(c.qJ.map fun a=>ln (.cl a)).sum+(c.qQ.map fun a=>ln (.pr a)).sum+1:=by rw[ZkN];simp only[ZP,List.map_append,Gf,List.sum_append];rfl
def YR{f:Part->Z}(p:Part):(pre p).all f=true↔f p=true/\∀k∈ZP p,(pre k).all f=true:=by rw[pre_eq,List.all_cons,Ba0,Q2];refine and_congr Iff.rfl ⟨fun h k q=>Q2.2 fun x l=>h x (Q1.2 ⟨k,q,l⟩),fun h x l=>?_⟩;have⟨k,q,l⟩:=Q1.1 l;exact Q2.1 (h k q) x l
def Zwi:∀(l:U Y)(h:Y->Z),nWb h l=true↔(∀x∈l,Xt x=true/\h x=false)/\l.Nodup
 | [],h=>by simp[nWb]
 | x::l,h=>by
   rw[nWb,Ba0,Ba0,Zwi l,GA,Bool.not_eq_true']
   constructor
   .rintro⟨⟨a,b⟩,c,d⟩;refine⟨fun y r=>?_,fun t=>?_,d⟩
    .rcases K2.1 r with rfl|r
     .exact⟨a,b⟩
     have:=c y r;rw[Jx]at this;exact⟨this.1,this.2.1⟩
    have:=(c x t).2;rw[Jx]at this;simp at this
   rintro⟨a,b,c⟩;refine⟨a x (by simp),fun y r=>?_,c⟩;have⟨p,q⟩:=a y (Kd _ r);refine⟨p,?_⟩;rw[Jx,decide_eq_false_iff_not];exact⟨q,fun e=>b (e▸r)⟩
def ZBe:∀(js:U ZN)(q hn:Y->Z),jW q hn js=true↔(∀m∈js,Xt m.qG=true/\q m.qG=false/\m.names.length<=3/\∀x∈m.names,Xt x=true/\hn x=false)/\(js.map (·.qG)).Nodup/\(ZA js).Nodup
 | [],q,hn=>by simp[jW,ZA]
 | m::js,q,hn=>by
   have e:ZA (m::js)=m.names++ZA js:=rfl;rw[jW,Ba0,Ba0,Ba0,Ba0,Zwi,ZBe js,Bool.not_eq_true',decide_eq_true_iff,G7,GA,e,List.nodup_append]
   constructor
   .rintro⟨⟨⟨G,F⟩,E⟩,⟨C,B⟩,p,A,t⟩;refine⟨fun y h=>?_,⟨fun D=>?_,A⟩,B,t,fun x l y h r=>?_⟩
    .rcases K2.1 h with rfl|h
     .exact⟨G,F,E,C⟩
     have⟨d1,d2,d3,d4⟩:=p y h;rw[Jx]at d2;exact⟨d1,d2.1,d3,fun x l=>by have:=d4 x l;rw[Jx]at this;exact⟨this.1,this.2.1⟩⟩
    .have⟨y,h,ey⟩:=JT.1 D;have:=(p y h).2.1;rw[Jx,decide_eq_false_iff_not]at this;exact this.2 ey
    subst r;have⟨z,hz,hxz⟩:=Q1.1 h;have:=((p z hz).2.2.2 x hxz).2;rw[Jx,decide_eq_false_iff_not]at this;exact this.2 l
   rintro⟨a,⟨C,B⟩,p,A,t⟩;have⟨d1,d2,d3,d4⟩:=a m (by simp);refine⟨⟨⟨d1,d2⟩,d3⟩,⟨d4,p⟩,fun y h=>?_,B,A⟩;have⟨e1,e2,e3,e4⟩:=a y (Kd _ h);refine⟨e1,?_,e3,fun x l=>?_⟩
   .rw[Jx,decide_eq_false_iff_not];exact⟨e2,fun z=>C (JT.2 ⟨y,h,z⟩)⟩
   rw[Jx,decide_eq_false_iff_not];exact⟨(e4 x l).1,(e4 x l).2,fun z=>t x z x (Q1.2 ⟨y,h,l⟩) rfl⟩
def ZAW:Xt E0=false:=rfl
def ZFv{l to:U Y}:∀(h:l.Nodup){i:Nat}{x y:Y},l[i]? =some x->to[i]? =some y->ZC ((l.zip to).map fun p=>(p.1,JR p.2)).reverse x=some (JR y):=by
 induction l generalizing to with|nil=>intro _ i x y h;cases h|cons a l ih=>
   intro hn i x y t r;rw[GA]at hn;cases to with|nil=>cases r|cons b to=>
     rw[GU,G7,List.reverse_cons,Uq];cases i with
     | zero=>
       simp only[List.getElem?_cons_zero,Gj]at t r;subst t r
       have:ZC ((l.zip to).map fun p=>(p.1,JR p.2)).reverse a=none:=by
        cases e:ZC ((l.zip to).map fun p=>(p.1,JR p.2)).reverse a with|none=>rfl|some v=>
          have:=Zbr e;rw[List.mem_reverse,JT]at this;have⟨q,hq,e2⟩:=this;have h1:=(List.of_mem_zip hq).1;cases e2;exact absurd h1 hn.1
       rw[this,Zbs,if_pos rfl]
     | succ i=>
       simp only[List.getElem?_cons_succ]at t r;rw[ih hn.2 t r]
def Zow{env:NM}{l to:U Y}(hn:l.Nodup){i:Nat}{x y:Y}(p:l[i]? =some x)(h:to[i]? =some y):ZC (ext env l to) x=some (JR y)/\Q5 (ext env l to) x=y:=by
 have g:ZC (ext env l to) x=some (JR y):=by
  unfold ext;rw[Uq,ZFv hn p h]
 refine⟨g,?_⟩;unfold Q5;rw[g];rfl
def ZvQ{env:NM}{l to:U Y}(hn:l.Nodup)(r:l.length=to.length):l.map (Q5 (ext env l to))=to:=by
 refine GL fun i=>?_;rw[GN];by_cases q:i<l.length;.have p:=Q4 q;have h:=Q4 (show i<to.length by omega);rw[p,h];exact congrArg some (Zow hn p h).2
 rw[G0 Vb,G0 Vb];rfl
def ZFM{env:NM}{l to:U Y}(hn:l.Nodup)(q:to.Nodup)(r:l.length=to.length):∀x∈l,∀y∈l,Q5 (ext env l to) x=Q5 (ext env l to) y->x=y:=by intro x p y h e;have⟨i,hi,ei⟩:=List.getElem_of_mem p;have⟨j,hj,ej⟩:=List.getElem_of_mem h;have a:=(Zow (env:=env) (to:=to) hn (i:=i) (x:=x) (y:=to[i]'Vb) (by rw[Q4 hi,ei]) (Q4 _)).2;have b:=(Zow (env:=env) (to:=to) hn (i:=j) (x:=y) (y:=to[j]'Vb) (by rw[Q4 hj,ej]) (Q4 _)).2;rw[a,b]at e;have:=(List.getElem_inj q).1 e;subst this;rw[<-ei,<-ej]
def ZpF{e:Zf}(h:e.qQ=[]):ln (.ex e)=1/\dep (.ex e)=1:=by rw[ZkN,ZpN];simp[ZP,h,Zft]
def nt(e:Evt):O Y:=if e.1∈e.2 then none else some e.1
def fv(p:Part)(B:U Y):U Y:=(WB p B).filterMap nt
def fvN(B l:U Y):U Y:=l.filter fun s=>!decide (s∈B)
def Zlc(B:U Y):∀l:U Y,(l.map fun s=>((s,B):Evt)).filterMap nt=fvN B l
 | []=>rfl
 | x::l=>by
   have ih:=Zlc B l;unfold fvN at ih ⊢;rw[G7,List.filterMap_cons,List.filter_cons,ih];unfold nt;by_cases h:x∈B
   .simp[h]
   simp[h]
def ZgH{h:Type}(f:h->U Evt):∀l:U h,(l.flatMap f).filterMap nt=l.flatMap fun a=>(f a).filterMap nt
 | []=>rfl
 | x::l=>by rw[Kf,Kf,List.filterMap_append,ZgH f l]
def UG(B l r:U Y):fvN B (l++r)=fvN B l++fvN B r:=List.filter_append ..
def Zdr{h:Type}(B:U Y)(f:h->U Y):∀l:U h,fvN B (l.flatMap f)=l.flatMap fun a=>fvN B (f a)
 | []=>rfl
 | x::l=>by rw[Kf,Kf,UG,Zdr B f l]
def ZwM(t:Term)(B:U Y):fv (.pr t) B=(if t.qG=E0 then [] else fvN B [t.qG])++fvN B (t.args.flatMap Qk)++(t.qJ.flatMap (fun c=>fv (.cl c) (bnd t B))++t.qQ.flatMap (fun k=>fv (.pr k) (bnd t B))):=by
 unfold fv;rw[ZuS,List.filterMap_append,List.filterMap_append,List.filterMap_append,ZgH,ZgH,Zlc];by_cases h:t.qG=E0;.rw[if_pos h,if_pos h];rfl
 rw[if_neg h,if_neg h,<-Zlc B [t.qG]];rfl
def ZwN(c:Za)(B:U Y):fv (.cl c) B=c.qJ.flatMap (fun d=>fv (.cl d) B)++c.qQ.flatMap (fun k=>fv (.pr k) (B++ZA c.qV)):=by unfold fv;rw[ZpG,List.filterMap_append,ZgH,ZgH]
def ZtV(l:U Y)(fr:MB):MB:=l.foldl (fun fr x=>Yu fr x true) fr
def Znn:∀(l:U Evt)(fr:MB),YZ l fr=ZtV (l.filterMap nt) fr
 | [],fr=>rfl
 | e::l,fr=>by
   show YZ l (note fr e.2 e.1)=_;rw[Znn l,List.filterMap_cons];unfold note nt;by_cases h:e.1∈e.2
   .rw[if_pos h,if_pos h]
   rw[if_neg h,if_neg h];rfl
def ZLj(t:Term):tk0 t=ZtV (fv (.pr t) []) []:=Znn _ _
def Zgl{e:Zf}(h2:e.op=2)(h:e.qQ=[]):Qk e=[e.qG]:=by rw[ZhK,h2,h];rfl
def ZbD{e:Zf}(h:Um e=true)(h2:e.op=2):e.qQ=[]:=by unfold Um at h;rw[h2]at h;simp only[Int.reduceBEq,Cq1,Cq0,Ba0,beq_iff_eq]at h;exact G8 h.2
def UH{p β:Type}{l:U p}{f g:p->U β}(h:∀x∈l,f x=g x):l.flatMap f=l.flatMap g:=by induction l with|nil=>rfl|cons x l ih=>rw[Kf,Kf,h x (by simp),ih fun y q=>h y (Kd _ q)]
def WsP.thread{σ p:Type}{P Q:σ->p->σ×p->Prop}{w:p->Nat}{I:Nat->σ->Prop}{s:σ}{l:U p}{q:σ×U p}(h:WsP P s l q)
 (A:∀a∈l,∀s r,P s a r->∀k,I (k+w a) s->I k r.1/\Q s a r):∀k,I (k+(l.map w).sum) s->I k q.1/\WsP Q s l q:=by
 induction h with|nil=>intro k y;exact⟨y,.nil⟩|@cons s a l r q h t ih=>
   intro k y;rw[G7,List.sum_cons]at y;have⟨a1,a2⟩:=A a (by simp) s r h (k+(l.map w).sum) (by rw[show k+(l.map w).sum+w a=k+(w a+(l.map w).sum) by omega];exact y);have⟨b1,b2⟩:=ih (fun x B=>A x (Kd _ B)) k a1;exact⟨b1,.cons a2 b2⟩
def WsP.al{σ p:Type}{Q:σ->p->σ×p->Prop}{R:p->p->Prop}{s:σ}{l:U p}{q:σ×U p}(h:WsP Q s l q)(x:∀s a r,Q s a r->R a r.2):Al R l q.2:=by induction h with|nil=>exact .nil|cons h t ih=>exact .cons (x _ _ _ h) ih
def WsP.keys{p:Type}{Q:MB->p->MB×p->Prop}{s:MB}{l:U p}{q:MB×U p}(h:WsP Q s l q)(A:∀s a r,Q s a r->∀x∈Yb s,x∈Yb r.1):∀x∈Yb s,x∈Yb q.1:=by
 induction h with
 | nil=>exact fun x y=>y
 | cons h t ih=>exact fun x y=>ih x (A _ _ _ h x y)
def Zox{h:Type}(f:h->Nat)(m:Nat):∀l:U h,(l.map fun a=>m*f a).sum=m*(l.map f).sum
 | []=>rfl
 | x::l=>by rw[G7,G7,List.sum_cons,List.sum_cons,Zox f m l,Nat.mul_add]
def TB.one{B:U Y}{l:U Za}(h:TB B l){c:Za}(y:c∈l):TB B [c]:=by
 have r:∀sp,sp∈[c].flatMap Qa->sp∈l.flatMap Qa:=fun sp q=>by
  rw[Kf,GQ,Ge]at q;exact Q1.2 ⟨c,y,q⟩
 constructor
 .intro sp q d x m t;rcases K2.1 q with rfl|q
  .have:d=c:=by simpa using x
   subst this;exact h.j (E0,l) Gg d y m t
  exact h.j sp (Kd _ (r sp q)) d x m t
 exact fun sp q=>h.p sp (r sp q)
def ZJD{l:U Za}:(jns l).map mq=l.flatMap fun c=>c.qV.map mq:=by unfold jns;rw[List.map_flatMap]
def Zuf{h:U ZN}{env en:NM}:ZA (h.map (Zaa env en))=(ZA h).map (Q5 en):=by unfold ZA;rw[List.flatMap_map,List.map_flatMap];rfl
def vl(env:NM)(z:Y):Zf:=(ZC env z).getD (JR z)
def Ui(env:NM)(z:Y):Q5 env z=(vl env z).qG:=by unfold Q5 vl;cases ZC env z<;>rfl
def ZpD{e:Zf}(h:Um e=true)(h2:e.op=2):e=JR e.qG:=by have l:=ZbD h h2;unfold Um at h;rw[h2]at h;simp only[Int.reduceBEq,Cq1,Cq0,Ba0,beq_iff_eq]at h;have⟨op,n,tx,ks⟩:=e;simp only at h2 l h;unfold JR;rw[h2,l,h.1.2]
def Ky{env:NM}{e:Zf}(h:Um e=true)(h2:e.op=2):QK env e=vl env e.qG:=by have hn:=ZpD h h2;rw[ZfH,h2];show(ZC env e.qG).getD e=(ZC env e.qG).getD (JR e.qG);rw[<-hn]
def Zae(env:NM)(z:Y):QK env (JR z)=vl env z:=by rw[ZfH];rfl
def J8{env:NM}{e:Zf}(h2:e.op≠2):QK env e=.mk e.op e.n e.qG (e.qQ.map (QK env)):=by
 have:(e.op==2)=false:=by simpa using h2
 rw[ZfH,this];rfl
def Zeg(z:Y):Qk (JR z)=[z]:=Zgl rfl rfl
def Zdg{e:Zf}(h2:e.op≠2):Qk e=e.qQ.flatMap Qk:=by
 have:(e.op==2)=false:=by simpa using h2
 rw[ZhK,this];rfl
def ZlU{P:Zf->Prop}(h:∀e,(pre (.ex e)).all Q6=true->(∀k∈e.qQ,P k)->P e):∀e,(pre (.ex e)).all Q6=true->P e:=by
 have:∀n e,ln (.ex e)<=n->(pre (.ex e)).all Q6=true->P e:=by
  intro n;induction n with|zero=>intro e h;have:=Xb (.ex e);unfold ln at h;omega|succ n ih=>intro e hn l;exact h e l fun k p=>ih k (by have:=Yv (YP p);unfold ln at hn ⊢;omega) (((YR _).1 l).2 _ (YP p))
 exact fun e=>this _ e Vc
def Zwa(env:NM):∀e,(pre (.ex e)).all Q6=true->Qk (QK env e)=(Qk e).flatMap fun z=>Qk (vl env z):=ZlU fun e l ih=>by
 have h:Um e=true:=((YR _).1 l).1;by_cases h2:e.op=2
 .rw[Ky h h2,Zgl h2 (ZbD h h2)];simp
 rw[J8 h2,Zdg (e:=.mk e.op e.n e.qG _) h2,Zdg h2];show(e.qQ.map (QK env)).flatMap Qk=_;rw[List.flatMap_map,List.flatMap_assoc];exact UH ih
def ZD2{env σ comp:NM}:∀e,(pre (.ex e)).all Q6=true->(∀z∈Qk e,QK σ (vl env z)=vl comp z)->QK σ (QK env e)=QK comp e:=ZlU fun e r ih p=>by
 have h:Um e=true:=((YR _).1 r).1;by_cases h2:e.op=2
 .rw[Ky h h2,Ky h h2];exact p _ (by rw[Zgl h2 (ZbD h h2)];simp)
 rw[J8 h2,J8 (e:=.mk e.op e.n e.qG _) h2,J8 (env:=comp) h2];simp only[Gf];congr 1;exact Gh fun k q=>ih k q fun z l=>p z (by rw[Zdg h2];exact Q1.2 ⟨k,q,l⟩)
def ZIw{σ:NM}{to fr:U Y}(r:to.length=fr.length):∀n e,ln (.ex e)<=n->(∀m∈Qk e,m∉to)->QK (ext σ to fr) e=QK σ e:=by
 intro n
 induction n with|zero=>intro e h;have:=Xb (.ex e);unfold ln at h;omega|succ n ih=>
   intro e hn p;by_cases h2:e.op=2
   .rw[ZfH,ZfH,h2];have:e.qG∉to:=p _ (by rw[ZhK,h2];simp);rcases ext_get r σ e.qG with⟨h,_⟩|⟨_,g⟩
    .exact absurd h this
    rw[g];rfl
   rw[J8 h2,J8 h2];congr 1;exact Gh fun k q=>ih k (by have:=Yv (YP q);unfold ln at hn ⊢;omega) fun m l=>p m (by rw[Zdg h2];exact Q1.2 ⟨k,q,l⟩)
def ZhA{env:NM}{l to:U Y}(q:l.length=to.length){z:Y}(p:z∉l):vl (ext env l to) z=vl env z:=by
 rcases ext_get q env z with⟨h,_⟩|⟨_,g⟩
 .exact absurd h p
 unfold vl;rw[g]
def ZvP{env:NM}{l to:U Y}(hn:l.Nodup){i:Nat}{x y:Y}(p:l[i]? =some x)(h:to[i]? =some y):vl (ext env l to) x=JR y:=by unfold vl;rw[(Zow hn p h).1];rfl
def idx{l to:U Y}(p:l.length=to.length){z:Y}(h:z∈l):∃(i:Nat) (y:Y),l[i]? =some z/\to[i]? =some y/\y∈to:=by have⟨i,hi,e⟩:=List.getElem_of_mem h;exact⟨i,to[i]'Vb,by rw[Q4 hi,e],Q4 _,GE _⟩
def ZvO{env:NM}{l to:U Y}(hn:l.Nodup)(p:l.length=to.length){z:Y}(h:z∈l):∃y∈to,vl (ext env l to) z=JR y:=by have⟨i,y,a,b,c⟩:=idx p h;exact⟨y,c,ZvP hn a b⟩
def Zhd{env σ comp:NM}{l to fr:U Y}(hn:l.Nodup)(t:to.Nodup)(p:l.length=to.length)(x:l.length=fr.length){z:Y}(r:z∉l->(∀m∈Qk (vl env z),m∉to)/\QK σ (vl env z)=vl comp z):QK (ext σ to fr) (vl (ext env l to) z)=vl (ext comp l fr) z:=by
 by_cases h:z∈l;.have⟨i,y,a,b,c⟩:=idx p h;have d:=Q4 (show i<fr.length by have:=Li0 a;have⟨q,_⟩:=this;omega);rw[ZvP hn a b,Zae,ZvP t b d,ZvP hn a d]
 have⟨h1,h2⟩:=r h;rw[ZhA p h,ZIw Vb _ _ Vc h1,ZhA x h,h2]
def Wv:∀(n:Nat)(m:MB),(Ka m n).2.length=n
 | 0,m=>rfl
 | n+1,m=>by show(Ka _ n).2.length+1=_;rw[Wv n]
def Zmw(p:Part):Lo p↔Loc p/\∀k∈ZP p,Lo k:=by
 refine⟨fun h=>⟨h.loc,fun k q=>h.kid q⟩,fun⟨h1,h2⟩ x l=>?_⟩;rw[pre_eq]at l;rcases K2.1 l with rfl|l
 .exact h1
 have⟨k,q,l⟩:=Q1.1 l;exact h2 k q x l
def ZcS{p β:Type}{R:p->β->Prop}{l:U p}{m:U β}{f:p->Nat}{g:β->Nat}(h:Al R l m)(e:∀x y,R x y->g y<=60*f x):(m.map g).sum<=60*(l.map f).sum:=by
 induction h with|nil=>exact K1 _|cons h t ih=>
   have:=e _ _ h;simp only[G7,List.sum_cons];omega
def Zvf{p β:Type}{R:p->β->Prop}{f:p->β}:∀{l:U p},(∀x∈l,R x (f x))->Al R l (l.map f)
 | [],_=>.nil
 | x::l,h=>.cons (h x (by simp)) (Zvf fun y q=>h y (Kd _ q))
def EnL(env:NM):Prop:=∀z,z.size<=BB->ln (.ex (vl env z))<=60/\Lo (.ex (vl env z))
def Zvs{z:Y}(h:z.size<=BB):ln (.ex (JR z))<=60/\Lo (.ex (JR z)):=by refine⟨by have:=Zv6 z;unfold ln;omega,(Zmw _).2 ⟨⟨h,GH _⟩,fun k l=>(by cases l)⟩⟩
def EnL.Q5{env:NM}(h:EnL env){z:Y}(l:z.size<=BB):(Q5 env z).size<=BB:=by rw[Ui];exact(h z l).2.loc.1
def EnL.exp{env:NM}(h:EnL env):∀e,(pre (.ex e)).all Q6=true->Lo (.ex e)->ln (.ex (QK env e))<=60*ln (.ex e)/\Lo (.ex (QK env e)):=ZlU fun e t ih l=>by
 have q:Um e=true:=((YR _).1 t).1;by_cases h2:e.op=2
 .rw[Ky q h2];have:=h e.qG l.loc.1;have D:=Xb (.ex e);exact⟨by unfold ln at this ⊢;omega,this.2⟩
 have ih:∀k∈e.qQ,ln (.ex (QK env k))<=60*ln (.ex k)/\Lo (.ex (QK env k)):=fun k p=>ih k p (l.kid (YP p))
 rw[J8 h2]
 constructor
 .rw[ZkN,ZkN (.ex e)];have:=ZcS (f:=fun a=>ln (.ex a)) (g:=fun a=>ln (.ex a)) (Zvf (R:=fun a b=>ln (.ex b)<=60*ln (.ex a)) (f:=QK env) fun x r=>(ih x r).1) fun x y h=>h
  simp only[ZP,Gf]at this ⊢;have C:(ln∘Part.ex)=fun a=>ln (.ex a):=rfl
  have B:(ln∘Part.ex∘QK env)=((fun a=>ln (.ex a))∘QK env):=rfl;rw[B,C];omega
 rw[Zmw];refine⟨⟨l.loc.1,by show(e.qQ.map _).length<=_;rw[G5];exact l.loc.2⟩,fun k p=>?_⟩;simp only[ZP,Gf,JT]at p;obtain⟨a,A,rfl⟩:=p;exact(ih a A).2
def bl(t:Term):U Y:=bif t.op==4 then XQ t.qJ else []
def ZpY(t:Term)(B:U Y):bnd t B=B++bl t:=by
 unfold bnd bl;cases t.op==4;.show B=B++[];rw[Ge]
 rfl
def ZjJ{B l:U Y}{z:Y}:z∈fvN B l↔z∈l/\z∉B:=by unfold fvN;rw[List.mem_filter];simp
def ZbV(l:U Y):fvN [] l=l:=List.filter_eq_self.2 fun _ _=>by simp
def ZHn(B D l:U Y):fvN (B++D) l=fvN B (fvN D l):=by unfold fvN;rw[List.filter_filter];congr 1;funext z;by_cases h1:z∈B<;>by_cases h2:z∈D<;>simp[h1,h2]
def ZHm:∀(p:Part)(B:U Y),fv p B=fvN B (fv p []):=by
 refine Wm fun p ih=>?_;intro B
 have C:∀(k:Part)(D:U Y),k∈ZP p->fv k (B++D)=fvN B (fv k ([]++D)):=fun k D A=>by
  rw[ih k A (B++D),ih k A ([]++D),Jn,ZHn]
 have h:∀{y:Type}(l:U y)(f:y->Part)(D:U Y),(∀a∈l,f a∈ZP p)->l.flatMap (fun a=>fv (f a) (B++D))=fvN B (l.flatMap fun a=>fv (f a) ([]++D)):=fun l f D x=>by
  rw[Zdr];exact UH fun a q=>C (f a) D (x a q)
 cases p with
 | ex e=>
   have x:∀B,fv (.ex e) B=fvN B (Qk e):=fun B=>by unfold fv;rw[<-Zlc];unfold WB;rfl
   rw[x,x,ZbV]
 | pr t=>
   have h1:=h t.qJ Part.cl (bl t) fun a q=>XR q;have h2:=h t.qQ Part.pr (bl t) fun a q=>XB q;rw[ZwM,ZwM t [],ZpY,ZpY,h1,h2,UG,UG,UG];simp only[ZbV];by_cases r:t.qG=E0;.rw[if_pos r,if_pos r];rfl
   rw[if_neg r,if_neg r]
 | cl c=>
   have h1:=h c.qJ Part.cl [] fun a q=>Xn q;have h2:=h c.qQ Part.pr (ZA c.qV) fun a q=>YU q;simp only[Ge]at h1;rw[ZwN,ZwN c [],h1,h2,UG]
def Zwm(p:Part)(B:U Y)(z:Y):z∈fv p B↔z∈fv p []/\z∉B:=by rw[ZHm,ZjJ]
def ZCH(t:Term):fv (.pr t) []=(if t.qG=E0 then [] else [t.qG])++t.args.flatMap Qk++fvN (bl t) (t.qJ.flatMap (fun c=>fv (.cl c) [])++t.qQ.flatMap fun k=>fv (.pr k) []):=by
 have l:t.qJ.flatMap (fun c=>fv (.cl c) (bl t))=fvN (bl t) (t.qJ.flatMap fun c=>fv (.cl c) []):=by rw[Zdr];exact UH fun a _=>ZHm _ _
 have h:t.qQ.flatMap (fun c=>fv (.pr c) (bl t))=fvN (bl t) (t.qQ.flatMap fun c=>fv (.pr c) []):=by rw[Zdr];exact UH fun a _=>ZHm _ _
 rw[ZwM,ZpY,Jn,l,h,ZbV,ZbV,UG]
def Zph(c:Za):fv (.cl c) []=c.qJ.flatMap (fun d=>fv (.cl d) [])++fvN (ZA c.qV) (c.qQ.flatMap fun k=>fv (.pr k) []):=by
 have h:c.qQ.flatMap (fun k=>fv (.pr k) (ZA c.qV))=fvN (ZA c.qV) (c.qQ.flatMap fun k=>fv (.pr k) []):=by rw[Zdr];exact UH fun a _=>ZHm _ _
 rw[ZwN,Jn,h]
def JJ(t:Term)(z:Y):z∈fv (.pr t) []↔((z=t.qG/\t.qG≠E0)\/∃a∈t.args,z∈Qk a)\/((∃c∈t.qJ,z∈fv (.cl c) [])\/∃k∈t.qQ,z∈fv (.pr k) [])/\z∉bl t:=by
 rw[ZwM,ZpY,Jn];simp only[Q3,Q1,ZjJ,Zwm _ (bl t),KB,not_false_eq_true,and_true];have q:(∃a∈t.qJ,z∈fv (.cl a) []/\z∉bl t)↔(∃a∈t.qJ,z∈fv (.cl a) [])/\z∉bl t:=⟨fun⟨a,b,c,d⟩=>⟨⟨a,b,c⟩,d⟩,fun⟨⟨a,b,c⟩,d⟩=>⟨a,b,c,d⟩⟩;have p:(∃a∈t.qQ,z∈fv (.pr a) []/\z∉bl t)↔(∃a∈t.qQ,z∈fv (.pr a) [])/\z∉bl t:=⟨fun⟨a,b,c,d⟩=>⟨⟨a,b,c⟩,d⟩,fun⟨⟨a,b,c⟩,d⟩=>⟨a,b,c,d⟩⟩
 have l:(z∈if t.qG=E0 then [] else fvN [] [t.qG])↔z=t.qG/\t.qG≠E0:=by
  by_cases h:t.qG=E0;.rw[if_pos h];simp[h]
  rw[if_neg h,ZjJ];simp[h]
 rw[q,p,l,or_and_right]
def UX(c:Za)(z:Y):z∈fv (.cl c) []↔(∃d∈c.qJ,z∈fv (.cl d) [])\/(∃k∈c.qQ,z∈fv (.pr k) [])/\z∉ZA c.qV:=by rw[ZwN,Jn];simp only[Q3,Q1,Zwm _ (ZA c.qV)];have h:(∃a∈c.qQ,z∈fv (.pr a) []/\z∉ZA c.qV)↔(∃a∈c.qQ,z∈fv (.pr a) [])/\z∉ZA c.qV:=⟨fun⟨a,b,c,d⟩=>⟨⟨a,b,c⟩,d⟩,fun⟨⟨a,b,c⟩,d⟩=>⟨a,b,c,d⟩⟩;rw[h]
def strs:Part->U Y
 | .pr t=>[t.qG]
 | .ex e=>[e.qG]
 | .cl c=>c.qG::c.qV.flatMap fun m=>m.qG::m.names
def SK(K0:U Y)(p:Part):Prop:=∀q∈pre p,∀s∈strs q,s∈K0
def SK.kid{K0:U Y}{p k:Part}(h:SK K0 p)(r:k∈ZP p):SK K0 k:=fun q l=>h q (Xi r l)
def SK.self{K0:U Y}{p:Part}(h:SK K0 p):∀s∈strs p,s∈K0:=h p (Xl p)
def ZAE{K0:U Y}{e:Zf}(h:SK K0 (.ex e)):∀z∈Qk e,z∈K0:=fun z l=>by
 unfold Qk at l;have⟨q,hq,l⟩:=Q1.1 l;refine h q hq z ?_;cases q with
 | ex e=>
   have l:z∈(bif e.op==2 then [e.qG] else []):=l;cases h2:e.op==2<;>rw[h2]at l
   .cases l
   exact l
 | pr t=>cases l
 | cl c=>cases l
def ZKs{K0:U Y}:∀(p:Part),SK K0 p->∀z∈fv p [],z∈K0:=by
 refine Wm fun p ih h z l=>?_;cases p with
 | ex e=>
   have x:fv (.ex e) []=fvN [] (Qk e):=by unfold fv;rw[<-Zlc];unfold WB;rfl
   rw[x,ZjJ]at l;exact ZAE h z l.1
 | pr t=>
   rw[JJ]at l;rcases l with(⟨rfl,_⟩|⟨a,ha,l⟩) | ⟨⟨c,r,l⟩|⟨k,q,l⟩,_⟩
   .exact h.self _ (by simp[strs])
   .exact ZAE (h.kid (JE ha)) z l
   .exact ih _ (XR r) (h.kid (XR r)) z l
   exact ih _ (XB q) (h.kid (XB q)) z l
 | cl c=>
   rw[UX]at l;rcases l with⟨d,r,l⟩|⟨⟨k,q,l⟩,_⟩
   .exact ih _ (Xn r) (h.kid (Xn r)) z l
   exact ih _ (YU q) (h.kid (YU q)) z l
def ZGd:∀(p:Part)(c:Za),p=.cl c->∀sp∈Qa c,∃d,Part.cl d∈pre (.cl c)/\sp=(d.qG,d.qJ):=by
 refine Wm fun p ih c l sp h=>?_;subst l;rw[Wj]at h;cases h2:c.qX==2<;>rw[h2]at h;.cases h
 rcases K2.1 h with rfl|h
 .exact⟨c,Xl _,rfl⟩
 have⟨d,hd,h⟩:=Q1.1 h;have⟨q,hq,e⟩:=ih _ (Xn hd) d rfl sp h;exact⟨q,Xi (Xn hd) hq,e⟩
def ZOX{K0:U Y}{t:Term}(h:SK K0 (.pr t)):∀z∈XQ t.qJ,z∈K0:=fun z r=>by
 rw[Zg8]at r;have r:=(Zwn _ z).1 r
 have y:∀sp∈t.qJ.flatMap Qa,∃d,Part.cl d∈pre (.pr t)/\sp=(d.qG,d.qJ):=fun sp p=>by
  have⟨c,x,p⟩:=Q1.1 p;have⟨d,hd,e⟩:=ZGd _ c rfl sp p;exact⟨d,Xi (XR x) hd,e⟩
 have A:∀l:U Za,(∀c∈l,Part.cl c∈pre (.pr t))->∀q∈(jns l).map mq,q.1∈K0:=fun l E q B=>by
  obtain⟨m,D,rfl⟩:=JT.1 B;have⟨c,x,D⟩:=Q1.1 D;exact h _ (E c x) _ (Kd _ (Q1.2 ⟨m,D,Gg⟩))
 unfold txS at r;rcases Q3.1 r with r|r
 .obtain⟨g,C,rfl⟩:=JT.1 r;rw[ZhF]at C;obtain⟨sp,p,rfl⟩:=JT.1 C;have⟨d,hd,e⟩:=y sp p;exact h _ hd _ (by rw[e];exact Gg)
 rw[Zan]at r;have⟨g,C,r⟩:=Q1.1 r;obtain⟨sp,p,rfl⟩:=JT.1 C;obtain⟨q,B,rfl⟩:=JT.1 r;rcases K2.1 p with rfl|p
 .exact A t.qJ (fun c x=>Xi (XR x) (Xl _)) q B
 have⟨d,hd,e⟩:=y sp p;refine A sp.2 (fun c x=>?_) q B;rw[e]at x;exact Za5 (Xi (Xn x) (Xl _)) hd
def Zd5{l to:U Y}(p:l.length=to.length){y:Y}(h:y∈to):∃n,(n,y)∈l.zip to:=by obtain⟨i,q,rfl⟩:=List.getElem_of_mem h;refine⟨l[i]'Vb,?_⟩;have:=GE (l:=l.zip to) (n:=i) (by rw[List.length_zip];omega);rw[List.getElem_zip]at this;exact this
def Zqv:∀(l:U Y),∀p∈l.zip l,p.2=p.1
 | [],p,h=>by cases h
 | x::l,p,h=>by
   rw[GU]at h;rcases K2.1 h with rfl|h
   .rfl
   exact Zqv l p h
structure Nw(mine tk:MB)(l to:List ByteArray)(tk1:MB):Prop where
 len:l.length=to.length
 nd:to.Nodup
 pair:∀p∈l.zip to,p.2=p.1\/(p.2∉Yb tk/\Xt p.2=true)
 inn:∀y∈to,y∈Yb tk1
 up:∀y∈Yb tk,y∈Yb tk1
def ZtQ(mine:MB):∀(l:U Y)(tk:MB),JI tk->tk.length+l.length<=800000->(∀n∈l,n∈Yb tk)->l.Nodup ->
 Nw mine tk l (rnm mine tk l).2 (rnm mine tk l).1/\∀p∈l.zip (rnm mine tk l).2,(ZC mine p.1).getD false=true->p.2∉Yb tk
 | [],tk,h,_,_,_=>⟨⟨rfl,List.nodup_nil,fun p q=>(by cases q),fun y r=>(by cases r),fun y r=>r⟩,fun p q=>(by cases q)⟩
 | n::l,tk,h,hl,hk,hn=>by
   simp only[Kx]at hl;rw[GA]at hn;have B:∀m∈l,m∈Yb tk:=fun m x=>hk m (Kd _ x)
   have C:n∈Yb tk:=hk n (by simp);unfold rnm;split
   .rename_i x;have t:=ZkP (m:=tk) Vb;have D:=ZiZ (l:=Yb tk) (by unfold Yb;rw[G5];omega);have⟨a,b⟩:=ZtQ mine l (Yu tk (Qq (Yb tk)) true) (h.Yu _) (by rw[Zal Vb];omega) (fun m x=>by rw[t];exact GC _ (B m x)) hn.2;refine⟨⟨by simp[a.len],?_,?_,?_,fun y r=>a.up y (by rw[t];exact GC _ r)⟩,?_⟩
    .rw[GA];refine⟨fun E=>?_,a.nd⟩;have⟨m,x⟩:=Zd5 a.len E;rcases a.pair _ x with e|⟨e,_⟩
     .exact D.2 ((show Qq (Yb tk)=m from e)▸B m (List.of_mem_zip x).1)
     exact e (by rw[t];simp)
    .intro p q;rw[GU]at q;rcases K2.1 q with rfl|q
     .exact .inr ⟨D.2,D.1⟩
     exact(a.pair p q).imp id fun⟨c,d⟩=>⟨fun z=>c (by rw[t];exact GC _ z),d⟩
    .intro y r;rcases K2.1 r with rfl|r
     .exact a.up _ (by rw[t];simp)
     exact a.inn y r
    intro p q A;rw[GU]at q;rcases K2.1 q with rfl|q
    .exact D.2
    exact fun z=>b p q A (by rw[t];exact GC _ z)
   rename_i x;have⟨a,b⟩:=ZtQ mine l tk h Vb B hn.2;refine⟨⟨by simp[a.len],?_,?_,?_,a.up⟩,?_⟩
   .rw[GA];refine⟨fun E=>?_,a.nd⟩;have⟨m,x⟩:=Zd5 a.len E;rcases a.pair _ x with e|⟨e,_⟩
    .exact hn.1 ((show n=m from e)▸(List.of_mem_zip x).1)
    exact e C
   .intro p q;rw[GU]at q;rcases K2.1 q with rfl|q
    .exact .inl rfl
    exact a.pair p q
   .intro y r;rcases K2.1 r with rfl|r
    .exact a.up _ C
    exact a.inn y r
   intro p q A;rw[GU]at q;rcases K2.1 q with rfl|q
   .exact absurd A x
   exact b p q A
def ZEr{x:Y}{mine r s1:MB}{fr:Part->U Y}{env:NM}{l to:U Y}{p:Part}(h:bdP x mine fr r env l p=(s1,to))(C:JI r)(D:r.length+l.length<=800000)(E:∀n∈l,n∈Yb r)(hn:l.Nodup)
 (F:∀m,(ZC mine m).getD false=true->m∈Yb r):Nw mine r l to s1/\(JI s1/\s1.length<=r.length+l.length)/\((ZC env.dropLast x).isSome=false->x∈fr p->∀m,(ZC mine m).getD false=true->m∉to):=by
 unfold bdP at h;split at h
 .rename_i t;cases h;refine⟨⟨rfl,hn,fun p I=>.inl (Zqv _ p I),E,fun y G=>G⟩,⟨C,Nat.le_add_right _ _⟩,fun h1 h2=>?_⟩;rcases t with t|t
  .rw[h1]at t;cases t
  exact absurd h2 t
 have⟨a,b⟩:=ZtQ mine l r C D E hn;have⟨c,d,e⟩:=Zjx mine l r C D;rw[h]at a b c d e;refine⟨a,⟨e,d⟩,fun _ _ m B A=>?_⟩;have⟨n,hz⟩:=Zd5 a.len A;rcases a.pair _ hz with q|⟨q,_⟩
 .have q:m=n:=q;subst q;exact b _ hz B (F _ B)
 exact q (F _ B)
structure ZeS(x:ByteArray)(e:Zf)(K0:List ByteArray)(s:MB)(env:NM):Prop where
 q:∃inn,env=inn++[(x,e)]/\∀z v,ZC inn z=some v->∃y,v=JR y/\(y=z\/(y∉K0/\Xt y=true))/\y∈Yb s
variable{x:Y}{e:Zf}{K0:U Y}{mine:MB}
def ZeS.mono{s s1:MB}{env:NM}(h:ZeS x e K0 s env)(l:∀y∈Yb s,y∈Yb s1):ZeS x e K0 s1 env:=by have⟨inn,a,b⟩:=h.q;exact⟨inn,a,fun z v hv=>by have⟨y,c,d,f⟩:=b z v hv;exact⟨y,c,d,l y f⟩⟩
def ZeS.bind{s s1:MB}{env:NM}(h:ZeS x e K0 s env){l to:U Y}(t:Nw mine s l to s1)(A:∀y∈K0,y∈Yb s):ZeS x e K0 s1 (ext env l to):=by
 have⟨inn,a,b⟩:=(h.mono t.up).q;refine⟨((l.zip to).map fun p=>(p.1,JR p.2)).reverse++inn,by rw[a];unfold ext;rw[G9],fun z v hv=>?_⟩;rw[Uq]at hv;cases r:ZC ((l.zip to).map fun p=>(p.1,JR p.2)).reverse z with|none=>rw[r]at hv;exact b z v hv|some v'=>
   rw[r]at hv;cases hv;have:=Zbr r;rw[List.mem_reverse,JT]at this;have⟨p,hp,e2⟩:=this;obtain⟨rfl,rfl⟩:=Prod.mk.inj e2;refine⟨p.2,rfl,?_,t.inn _ (List.of_mem_zip hp).2⟩;exact(t.pair p hp).imp id fun⟨c,d⟩=>⟨fun z=>c (A _ z),d⟩
def Zkb{inn:NM}(z:Y):vl (inn++[(x,e)]) z=match ZC inn z with|some v=>v|none=>if z=x then e else JR z:=by
 unfold vl;rw[Uq];cases ZC inn z with|some v=>rfl|none=>
   show(ZC [(x,e)] z).getD (JR z)=if z=x then e else JR z;rw[Zgn];by_cases h:z=x;.rw[if_pos h,if_pos h];rfl
   rw[if_neg h,if_neg h];rfl
def ZeS.cap{s s1:MB}{env:NM}(h:ZeS x e K0 s env){l to:U Y}(F:Nw mine s l to s1)(L:∀m,m∈Qk e↔(ZC mine m).getD false=true)(K:∀m∈Qk e,m∈K0){fr:Prop}(A:(ZC env.dropLast x).isSome=false->fr->∀m,(ZC mine m).getD false=true->m∉to)
 (E:∀n∈l,n∈K0) (P:∀y∈K0,y∈Yb s) {z:Y} (G:z∉l) (C:z∈K0) (D:z=x->fr):∀m∈Qk (vl env z),m∉to:=by
 obtain⟨inn,rfl,b⟩:=h.q;rw[List.dropLast_concat]at A;intro m p t;rw[Zkb]at p;have⟨n,hn⟩:=Zd5 F.len t;have r:n∈l:=(List.of_mem_zip hn).1;cases B:ZC inn z with
 | some v=>
   rw[B]at p;obtain⟨y,rfl,c,d⟩:=b z v B;have p:m∈Qk (JR y):=p;rw[Zeg,J1]at p;subst p;rcases F.pair _ hn with q|⟨q,_⟩
   .have q:m=n:=q;subst q;rcases c with rfl|⟨c,_⟩
    .exact G r
    exact c (E _ r)
   exact q d
 | none=>
   rw[B]at p;by_cases I:z=x;.subst I;have p:m∈Qk (if z=z then e else JR z):=p;rw[if_pos rfl]at p;exact A (by rw[B];rfl) (D rfl) m ((L m).1 p) t
   have p:m∈Qk (if z=x then e else JR z):=p;rw[if_neg I,Zeg,J1]at p;subst p;rcases F.pair _ hn with q|⟨q,_⟩
   .have q:m=n:=q;subst q;exact G r
   exact q (P _ C)
def ZeS.JR{s:MB}{env:NM}(h:ZeS x e K0 s env)(l:Um e=true){z:Y}(p:Xt z=true)(h2:(vl env z).op=2):vl env z=Go.Proofs.YtbnepjakjmnadaaGreat.JR (Q5 env z)/\Xt (Q5 env z)=true:=by
 rw[Ui];obtain⟨inn,rfl,b⟩:=h.q;rw[Zkb]at h2 ⊢;cases t:ZC inn z with
 | some v=>
   obtain⟨y,rfl,c,d⟩:=b z v t;refine⟨rfl,?_⟩;show Xt y=true;rcases c with rfl|⟨_,c⟩
   .exact p
   exact c
 | none=>
   rw[t]at h2;have h2:(if z=x then e else Go.Proofs.YtbnepjakjmnadaaGreat.JR z).op=2:=h2;show(if z=x then e else Go.Proofs.YtbnepjakjmnadaaGreat.JR z)=Go.Proofs.YtbnepjakjmnadaaGreat.JR (if z=x then e else Go.Proofs.YtbnepjakjmnadaaGreat.JR z).qG/\Xt (if z=x then e else Go.Proofs.YtbnepjakjmnadaaGreat.JR z).qG=true;by_cases r:z=x;.rw[if_pos r]at h2 ⊢;refine⟨ZpD l h2,?_⟩;unfold Um at l;rw[h2]at l;simp only[Int.reduceBEq,Cq1,Cq0,Ba0,beq_iff_eq]at l;exact l.1.1
   rw[if_neg r];exact⟨rfl,p⟩
def ZeS.enl{s:MB}{env:NM}(h:ZeS x e K0 s env)(l:ln (.ex e)<=60)(t:Lo (.ex e)):EnL env:=fun z p=>by
 obtain⟨inn,rfl,b⟩:=h.q;rw[Zkb];cases A:ZC inn z with
 | some v=>
   obtain⟨y,rfl,c,d⟩:=b z v A;refine Zvs ?_;rcases c with rfl|⟨_,c⟩
   .exact p
   have:=Zt2 c;unfold BB;omega
 | none=>
   show ln (.ex (if z=x then e else Go.Proofs.YtbnepjakjmnadaaGreat.JR z))<=60/\Lo (.ex (if z=x then e else Go.Proofs.YtbnepjakjmnadaaGreat.JR z));by_cases r:z=x
   .rw[if_pos r];exact⟨l,t⟩
   rw[if_neg r];exact Zvs p
structure NH(K0:List ByteArray)(p:Part):Prop where
 Q6:(pre p).all Q6=true
 agr:(pre p).all (Zjp AgW)=true
 lo:Lo p
 le:ln p<=60
 sk:SK K0 p
def NH.kid{p k:Part}(h:NH K0 p)(l:k∈ZP p):NH K0 k:=⟨((YR _).1 h.Q6).2 _ l,((YR _).1 h.agr).2 _ l,h.lo.kid l,by have:=Yv l;have:=h.le;unfold ln at *;omega,h.sk.kid l⟩
structure Zzy(env:NM)(t u:Term):Prop where
 len:ln (.pr u)<=60*ln (.pr t)
 lo:Lo (.pr u)
 fr:fv (.pr u) []=(fv (.pr t) []).flatMap fun z=>Qk (vl env z)
 co:∀σ comp s2,(∀z∈fv (.pr t) [],QK σ (vl env z)=vl comp z)->Wt bdC s2 σ u=Wt bdC s2 comp t
structure Zvo(env:NM)(c d:Za):Prop where
 len:ln (.cl d)<=60*ln (.cl c)
 lo:Lo (.cl d)
 fr:fv (.cl d) []=(fv (.cl c) []).flatMap fun z=>Qk (vl env z)
 jq:d.qV.map mq=c.qV.map fun m=>(Q5 env m.qG,m.names.length)
 pl:(Qa d).map sg=(Qa c).map fun sp=>rnS (Q5 env) (sg sp)
 co:∀σ comp s2 L,TB L [c]->(∀z∈L,Q5 σ (Q5 env z)=Q5 comp z)->(∀z∈fv (.cl c) [],QK σ (vl env z)=vl comp z)->Wc bdC s2 σ d=Wc bdC s2 comp c
def Zqd{σ comp:NM}{l m:U Term}(h:Al (fun a b=>∀s2,Wt bdC s2 σ b=Wt bdC s2 comp a) l m):∀s2,Wts bdC s2 σ m=Wts bdC s2 comp l:=by induction h with|nil=>intro s2;rw[Za3,Za3]|cons h t ih=>intro s2;rw[KH,KH,h,ih]
def ZEY{σ comp:NM}{l m:U Za}(h:Al (fun a b=>∀s2,Wc bdC s2 σ b=Wc bdC s2 comp a) l m):∀s2,Wcs bdC s2 σ m=Wcs bdC s2 comp l:=by induction h with|nil=>intro s2;rw[Zcb,Zcb]|cons h t ih=>intro s2;rw[ZbI,ZbI,h,ih]
def Zxw{p:Y->Z}:∀{l:U Term},bTs p l=false->∀t∈l,bT p t=false
 | [],_,t,h=>by cases h
 | a::l,hb,t,h=>by
   rw[ZdN,Jx]at hb;rcases K2.1 h with rfl|h
   .exact hb.1
   exact Zxw hb.2 t h
def Zxz{p:Y->Z}:∀{l:U Za},bCs p l=false->∀t∈l,bC p t=false
 | [],_,t,h=>by cases h
 | a::l,hb,t,h=>by
   rw[Zmc,Jx]at hb;rcases K2.1 h with rfl|h
   .exact hb.1
   exact Zxz hb.2 t h
def IM(x:Y)(e:Zf)(K0:U Y)(env:NM)(k:Nat)(s:MB):Prop:=IC k s/\(∀y∈K0,y∈Yb s)/\ZeS x e K0 s env
def IM.up{env:NM}{k j:Nat}{s s1:MB}(h:IM x e K0 env k s)(l:∀y∈Yb s,y∈Yb s1)(q:IC j s1):IM x e K0 env j s1:=⟨q,fun y p=>l y (h.2.1 y p),h.2.2.mono l⟩
def MT(x:Y)(e:Zf)(K0:U Y)(s:MB)(env:NM)(t:Term)(r:MB×Term):Prop:=
 ∀k h,NH K0 (.pr t)->IM x e K0 env (k+12000*ln (.pr t)) s->(∀z,(vl env z).op≠2->h z=true)->bT h t=false->IC k r.1/\(∀y∈Yb s,y∈Yb r.1)/\Zzy env t r.2
def MC(x:Y)(e:Zf)(K0:U Y)(s:MB)(env:NM)(c:Za)(r:MB×Za):Prop:=
 ∀k h,NH K0 (.cl c)->IM x e K0 env (k+12000*ln (.cl c)) s->(∀z,(vl env z).op≠2->h z=true)->bC h c=false->IC k r.1/\(∀y∈Yb s,y∈Yb r.1)/\Zvo env c r.2
def Zf4{env:NM}{s:MB}{l:U Term}{q:MB×U Term}{p:Y->Z}(h:WsP (fun s k r=>MT x e K0 s env k r) s l q)(E:∀a∈l,NH K0 (.pr a))(D:∀z,(vl env z).op≠2->p z=true)(A:bTs p l=false)(k:Nat)(F:IM x e K0 env (k+12000*(l.map fun a=>ln (.pr a)).sum) s):
 IM x e K0 env k q.1/\(∀y∈Yb s,y∈Yb q.1)/\Al (Zzy env) l q.2:=by
 have⟨a,b⟩:=h.thread (Q:=fun s a r=>(∀y∈Yb s,y∈Yb r.1)/\Zzy env a r.2) (w:=fun a=>12000*ln (.pr a)) (I:=IM x e K0 env) (fun a B s r C k t=>by
  have⟨c,d,f⟩:=C k p (E a B) t D (Zxw A a B);exact⟨t.up d c,d,f⟩) k (by rw[Zox];exact F)
 exact⟨a,b.keys fun _ _ _ h=>h.1,b.al fun _ _ _ h=>h.2⟩
def ZqE{env:NM}{s:MB}{l:U Za}{q:MB×U Za}{p:Y->Z}(h:WsP (fun s k r=>MC x e K0 s env k r) s l q)(E:∀a∈l,NH K0 (.cl a))(D:∀z,(vl env z).op≠2->p z=true)(A:bCs p l=false)(k:Nat)(F:IM x e K0 env (k+12000*(l.map fun a=>ln (.cl a)).sum) s):
 IM x e K0 env k q.1/\(∀y∈Yb s,y∈Yb q.1)/\Al (Zvo env) l q.2:=by
 have⟨a,b⟩:=h.thread (Q:=fun s a r=>(∀y∈Yb s,y∈Yb r.1)/\Zvo env a r.2) (w:=fun a=>12000*ln (.cl a)) (I:=IM x e K0 env) (fun a B s r C k t=>by
  have⟨c,d,f⟩:=C k p (E a B) t D (Zxz A a B);exact⟨t.up d c,d,f⟩) k (by rw[Zox];exact F)
 exact⟨a,b.keys fun _ _ _ h=>h.1,b.al fun _ _ _ h=>h.2⟩
def ZBd{env:NM}{l m:U Za}(h:Al (Zvo env) l m):(jns m).map mq=((jns l).map mq).map fun q=>(Q5 env q.1,q.2):=by rw[ZJD,ZJD,List.map_flatMap,h.flat (f:=fun c=>(c.qV.map mq).map fun q=>(Q5 env q.1,q.2)) fun x y r=>by rw[r.jq,Gf];rfl]
def ZAz{env:NM}{l m:U Za}(h:Al (Zvo env) l m):(m.flatMap Qa).map sg=((l.flatMap Qa).map sg).map (rnS (Q5 env)):=by rw[List.map_flatMap,List.map_flatMap,List.map_flatMap,h.flat (f:=fun c=>((Qa c).map sg).map (rnS (Q5 env))) fun x y r=>by rw[r.pl,Gf];rfl]
def ZF5{env:NM}{l m:U Za}(h:Al (Zvo env) l m):sgs m=(E0,((sg (E0,l)).2.map fun q=>(Q5 env q.1,q.2)))::((l.flatMap Qa).map sg).map (rnS (Q5 env)):=by
 unfold sgs;rw[G7]
 have p:sg (E0,m)=(E0,((sg (E0,l)).2.map fun q=>(Q5 env q.1,q.2))):=by
  unfold sg;show(E0,(jns m).map mq)=(E0,((jns l).map mq).map fun q=>(Q5 env q.1,q.2));rw[ZBd h]
 rw[p,ZAz h]
def ZxV{t:Term}(l:ZeM t=true)(h:t.qG≠E0):Xt t.qG=true:=by
 unfold ZeM at l;rw[Ba0]at l;have h2:=l.2;cases p:((t.op==2)||(t.op==6))||(t.op==8)<;>rw[p]at h2<;>simp only[Cq1,Cq0,decide_eq_true_eq]at h2;.exact absurd h2 h
 exact h2
def ZI1{y:Y}(h:Xt y=true):y≠E0:=fun e=>by rw[e,ZAW]at h;cases h
def ZxH{s:MB}{env:NM}{t:Term}{ds:U Za}{ks:U Term}{B:Y->Z}(I:NH K0 (.pr t))(hE:ZeS x e K0 s env)(S:(pre (.ex e)).all Q6=true)(Zun:ln (.ex e)<=60)(T:Lo (.ex e))(hb:∀z,(vl env z).op≠2->B z=true)(E:(!decide (t.qG=E0)&&B t.qG)=false)
 (ld:ds.length<=t.qJ.length) (lk:ks.length=t.qQ.length) (dl:(ds.map fun a=>ln (.cl a)).sum<=60*(t.qJ.map fun a=>ln (.cl a)).sum) (kl:(ks.map fun a=>ln (.pr a)).sum<=60*(t.qQ.map fun a=>ln (.pr a)).sum) (W:∀d∈ds,Lo (.cl d)) (K:∀k∈ks,Lo (.pr k))
 (Q:fvN (bif t.op==4 then XQ ds else []) (ds.flatMap (fun c=>fv (.cl c) [])++ks.flatMap fun k=>fv (.pr k) [])=(fvN (bl t) (t.qJ.flatMap (fun c=>fv (.cl c) [])++t.qQ.flatMap fun k=>fv (.pr k) [])).flatMap fun z=>Qk (vl env z))
 (V:∀σ comp s2,(∀z∈fv (.pr t) [],QK σ (vl env z)=vl comp z)->tx0 σ (tx0 env t.qG)=tx0 comp t.qG->(t.args.map (QK env)).map (QK σ)=t.args.map (QK comp)->Wt bdC s2 σ (.mk t.op (tx0 env t.qG) (t.args.map (QK env)) ds ks)=Wt bdC s2 comp t):
 Zzy env t (.mk t.op (tx0 env t.qG) (t.args.map (QK env)) ds ks):=by
 have hT:ZeM t=true:=((YR _).1 I.Q6).1;have A:=hE.enl Zun T;have r:∀a∈t.args,(pre (.ex a)).all Q6=true:=fun a q=>((YR _).1 I.Q6).2 _ (JE q);have D:∀a∈t.args,Lo (.ex a):=fun a q=>I.lo.kid (JE q)
 have C:t.qG≠E0->vl env t.qG=JR (Q5 env t.qG)/\Q5 env t.qG≠E0:=fun p=>by
  have F:B t.qG=false:=by rw[decide_eq_false p]at E;simpa using E
  have h2:(vl env t.qG).op=2:=by
   by_cases h:(vl env t.qG).op=2;.exact h
   rw[hb _ h]at F;cases F
  have⟨a,b⟩:=hE.JR (((YR _).1 S).1) (ZxV hT p) h2;exact⟨a,ZI1 b⟩
 have G:=I.lo.loc;refine⟨?_,?_,?_,fun σ comp s2 P=>?_⟩;.have:=ZcS (f:=fun a=>ln (.ex a)) (g:=fun a=>ln (.ex a)) (Zvf (R:=fun a b=>ln (.ex b)<=60*ln (.ex a)) (f:=QK env) (l:=t.args) fun x X=>(A.exp x (r x X) (D x X)).1) fun x y h=>h;rw[Znv,Znv t];show((t.args.map (QK env)).map fun a=>ln (.ex a)).sum+(ds.map fun a=>ln (.cl a)).sum+(ks.map fun a=>ln (.pr a)).sum+1<=_;omega
 .rw[Zmw];refine⟨⟨?_,by show(t.args.map _).length<=_;rw[G5];exact G.2.1,by show ds.length<=_;exact KK ld G.2.2.1,by show ks.length<=_;rw[lk];exact G.2.2.2⟩,fun k h=>?_⟩
  .show(tx0 env t.qG).size<=BB;unfold tx0;split;.exact GH _
   exact A.Q5 G.1
  simp only[ZP,Q3,JT]at h;rcases h with(⟨y,⟨a,q,rfl⟩,rfl⟩|⟨d,hd,rfl⟩) | ⟨d,hd,rfl⟩
  .exact(A.exp a (r a q) (D a q)).2
  .exact W d hd
  exact K d hd
 .rw[ZCH,ZCH t,Gk,Gk,<-Q];show(if tx0 env t.qG=E0 then [] else [tx0 env t.qG])++(t.args.map (QK env)).flatMap Qk++fvN (bif t.op==4 then XQ ds else []) (ds.flatMap (fun c=>fv (.cl c) [])++ks.flatMap fun k=>fv (.pr k) [])=_
  have h1:(if tx0 env t.qG=E0 then [] else [tx0 env t.qG])=(if t.qG=E0 then [] else [t.qG]).flatMap fun z=>Qk (vl env z):=by
   by_cases p:t.qG=E0;.rw[if_pos p,if_pos (by unfold tx0;rw[if_pos p])];rfl
   have⟨h1,h2⟩:=C p;have:tx0 env t.qG=Q5 env t.qG:=by unfold tx0;rw[if_neg p]
   rw[if_neg p,this,if_neg h2,Kf,GQ,Ge,h1,Zeg]
  have h2:(t.args.map (QK env)).flatMap Qk=(t.args.flatMap Qk).flatMap fun z=>Qk (vl env z):=by
   rw[List.flatMap_map,List.flatMap_assoc];exact UH fun a q=>Zwa env a (r a q)
  rw[h1,h2]
 refine V σ comp s2 P ?_ ?_
 .by_cases p:t.qG=E0;.unfold tx0;rw[if_pos p,if_pos rfl,if_pos p]
  have⟨h1,h2⟩:=C p;have:=P _ ((JJ t _).2 (.inl (.inl ⟨rfl,p⟩)));rw[h1,Zae]at this;unfold tx0;rw[if_neg p,if_neg h2,if_neg p,Ui,this,<-Ui]
 rw[Gf];exact Gh fun a q=>ZD2 a (r a q) fun z L=>P z ((JJ t _).2 (.inl (.inr ⟨a,q,L⟩)))
end
section
variable{x:Y}{e:Zf}{K0:U Y}{mine:MB}
def ZjI{t:Term}{z:Y}:z∈Yb (YZ (WB (.pr t) []) [])↔z∈fv (.pr t) []:=by
 have⟨_,k2,_⟩:=UW (WB (.pr t) []) [] List.nodup_nil;unfold Yb;rw[k2];unfold fv nt;rw[List.mem_filterMap];simp only[List.map_nil,KB,false_or];constructor;.rintro⟨a,h,rfl,hn⟩;exact⟨a,h,by rw[if_neg hn]⟩
 rintro⟨a,h,hn⟩;by_cases l:a.1∈a.2;.rw[if_pos l]at hn;cases hn
 rw[if_neg l]at hn;cases hn;exact⟨a,h,rfl,l⟩
def Zpk{env:NM}{l to:U Y}(hn:l.Nodup)(p:l.length=to.length):∀(A:U Y),(∀z∈A,z∉l->∀m∈Qk (vl env z),m∉to)->fvN to (A.flatMap fun z=>Qk (vl (ext env l to) z))=(fvN l A).flatMap fun z=>Qk (vl env z)
 | [],_=>rfl
 | z::A,hc=>by
   have ih:=Zpk (env:=env) hn p A fun y t=>hc y (Kd _ t)
   rw[Kf,UG,ih];by_cases h:z∈l
   .have⟨w,hw,e⟩:=ZvO (env:=env) hn p h;have r:fvN l (z::A)=fvN l A:=by unfold fvN;rw[List.filter_cons,decide_eq_true h];rfl
    have q:fvN to [w]=[]:=by unfold fvN;rw[List.filter_cons,decide_eq_true hw];rfl
    rw[e,Zeg,r,q];rfl
   have r:fvN l (z::A)=z::fvN l A:=by unfold fvN;rw[List.filter_cons,decide_eq_false h];rfl
   have q:fvN to (Qk (vl env z))=Qk (vl env z):=List.filter_eq_self.2 fun m x=>by simpa using hc z (by simp) h m x
   rw[ZhA p h,r,q,Kf]
def ZIo{env:NM}{l m:U Term}(h:Al (Zzy env) l m):m.flatMap (fun k=>fv (.pr k) [])=(l.flatMap fun k=>fv (.pr k) []).flatMap fun z=>Qk (vl env z):=by rw[List.flatMap_assoc];exact h.flat fun x y r=>r.fr
def ZUJ{env:NM}{l m:U Za}(h:Al (Zvo env) l m):m.flatMap (fun k=>fv (.cl k) [])=(l.flatMap fun k=>fv (.cl k) []).flatMap fun z=>Qk (vl env z):=by rw[List.flatMap_assoc];exact h.flat fun x y r=>r.fr
def Zxv{env:NM}{p:Y->Z}(t:∀z,(vl env z).op≠2->p z=true){l to:U Y}(hn:l.Nodup)(r:l.length=to.length):∀z,(vl (ext env l to) z).op≠2->Jc p l z=true:=fun z q=>by
 by_cases h:z∈l
 .have⟨w,_,e⟩:=ZvO (env:=env) hn r h;rw[e]at q;exact absurd rfl q
 rw[ZhA r h]at q;unfold Jc;rw[t z q,decide_eq_false h];rfl
def ZGc(heS:(pre (.ex e)).all Q6=true)(Zun:ln (.ex e)<=60)(heL:Lo (.ex e))(hM:∀m,m∈Qk e↔(ZC mine m).getD false=true)(hMK:∀m∈Qk e,m∈K0):
 (∀t s env,MT x e K0 s env t (Wt (bdP x mine frP) s env t))/\(∀c s env,MC x e K0 s env c (Wc (bdP x mine frP) s env c)):=by
 refine ZEZ (bdP x mine frP) (MT x e K0) (MC x e K0) ?_ ?_ ?_ ?_
 .intro s env en t s1 to rd rk h4 hbd A K hk k bad D hI hb B;have⟨hIC,hK,hE⟩:=hI;have hT:ZeM t=true:=((YR _).1 D.Q6).1;have⟨d1,d2,d3⟩:=ZjB D.le D.Q6 (Xl (.pr t));have hdl:=ZsB d1 d2 d3;have hlen:(XQ t.qJ).length<=12000:=by unfold XQ;rw[Ks];omega
  have hA:AgW t.qJ=true:=by
   have:(!(t.op==4)||AgW t.qJ)=true:=((YR _).1 D.agr).1;rw[h4]at this;simpa using this
  have hAS:=(ZI4 _).1 hA;have I:(XQ t.qJ).Nodup:=by rw[Zg8];exact Zy2 hAS
  have hlK:=ZOX D.sk;have hln:=Znv t;have⟨hNw,⟨hA1,hl1⟩,hEM⟩:=ZEr hbd hIC.1 (by have:=hIC.2;omega) (fun n hn=>hK _ (hlK n hn)) I fun m Q=>hK _ (hMK m ((hM m).2 Q));have hE1:ZeS x e K0 s1 en:=by rw[A];exact hE.bind hNw hK
  have hK1:∀y∈K0,y∈Yb s1:=fun y hy=>hNw.up y (hK y hy);have X:=Zxv hb I hNw.len;rw[<-A]at X;rw[Zxy,h4,Jx]at B;have⟨ZMw,Zyz⟩:=B;rw[show((4:Int)==4)=true from rfl,Cq1,Jx]at Zyz;have⟨i2,u2,ad⟩:=ZqE K (fun a C=>D.kid (XR C)) X Zyz.1 (k+12000*(t.qQ.map fun a=>ln (.pr a)).sum) ⟨⟨hA1,by have:=hIC.2;omega⟩,hK1,hE1⟩;have⟨i3,u3,ak⟩:=Zf4 hk (fun a C=>D.kid (XB C)) X Zyz.2 k i2;have htx:∀z∈txS (sgs t.qJ),z∈XQ t.qJ:=fun z F=>by rw[Zg8];exact(Zwn _ z).2 F
  have hinj:∀x∈XQ t.qJ,∀y∈XQ t.qJ,Q5 en x=Q5 en y->x=y:=by rw[A];exact ZFM I hNw.nd hNw.len
  have hdn:XQ rd.2=to:=by
   rw[Zg8,ZF5 ad];have:=ZOY (f:=Q5 en) (g0:=sg (E0,t.qJ)) (g:=(t.qJ.flatMap Qa).map sg) fun x hx y hy=>hinj x (htx x hx) y (htx y hy);refine this.trans ?_;rw[show dnS (sg (E0,t.qJ)::(t.qJ.flatMap Qa).map sg)=XQ t.qJ from(Zg8 _).symm,A];exact ZvQ I hNw.len
  have G:bl t=XQ t.qJ:=by unfold bl;rw[h4];rfl
  have P:∀z,((∃c∈t.qJ,z∈fv (.cl c) [])\/∃k∈t.qQ,z∈fv (.pr k) [])->z∉XQ t.qJ->∀m∈Qk (vl env z),m∉to:=fun z F V=>by
   have hzf:z∈fv (.pr t) []:=(JJ t z).2 (.inr ⟨F,by rw[G];exact V⟩)
   exact hE.cap hNw hM hMK hEM hlK hK V (ZKs _ D.sk z hzf) fun ez=>by
    show x∈Yb (YZ (WB (.pr t) []) []);rw[ZjI,<-ez];exact hzf
  refine⟨i3.1,fun y hy=>u3 y (u2 y (hNw.up y hy)),ZxH D hE heS Zun heL hb ZMw (by rw[ad.len];exact K1 _) ak.len (ZcS ad fun a b r=>r.len) (ZcS ak fun a b r=>r.len) (fun d K=>by have⟨_,_,r⟩:=ad.right d K;exact r.lo) (fun d K=>by have⟨_,_,r⟩:=ak.right d K;exact r.lo) ?_ ?_⟩;.rw[h4,show(bif((4:Int)==4) then XQ rd.2 else [])=to from hdn,G];rw[A]at ad ak;rw[ZUJ ad,ZIo ak,<-Gk];exact Zpk I hNw.len _ fun z F=>P z (by simpa only[Q3,Q1]using F)
  intro σ comp s2 F ZXU har
  have hin1:inT bdC s2 σ (.mk t.op (tx0 env t.qG) (t.args.map (QK env)) rd.2 rk.2)=((Ka s2 (XQ t.qJ).length).1,ext σ to (Ka s2 (XQ t.qJ).length).2):=by
   unfold inT;show(bif t.op==4 then((Ka s2 (XQ rd.2).length).1,ext σ (XQ rd.2) (Ka s2 (XQ rd.2).length).2) else _)=_;rw[h4,hdn,<-hNw.len];rfl
  have hin2:inT bdC s2 comp t=((Ka s2 (XQ t.qJ).length).1,ext comp (XQ t.qJ) (Ka s2 (XQ t.qJ).length).2):=by
   unfold inT;rw[h4];rfl
  have T:∀z,((∃c∈t.qJ,z∈fv (.cl c) [])\/∃k∈t.qQ,z∈fv (.pr k) [])->QK (ext σ to (Ka s2 (XQ t.qJ).length).2) (vl en z)=vl (ext comp (XQ t.qJ) (Ka s2 (XQ t.qJ).length).2) z:=fun z p=>by
   rw[A];exact Zhd I hNw.nd hNw.len (Wv _ _).symm fun h=>⟨P z p h,F z ((JJ t z).2 (.inr ⟨p,by rw[G];exact h⟩))⟩
  have hL:∀z∈XQ t.qJ,Q5 (ext σ to (Ka s2 (XQ t.qJ).length).2) (Q5 en z)=Q5 (ext comp (XQ t.qJ) (Ka s2 (XQ t.qJ).length).2) z:=fun z p=>by
   have h1:=Zhd (env:=env) (σ:=σ) (comp:=comp) (z:=z) I hNw.nd hNw.len (Wv (XQ t.qJ).length s2).symm fun h=>absurd p h;rw[<-A]at h1;have⟨w,_,e⟩:=ZvO (env:=env) I hNw.len p;rw[<-A]at e;rw[e,Zae]at h1;rw[Ui en,e,Ui,Ui,<-h1];rfl
  have hTB:TB (XQ t.qJ) t.qJ:=Zvm (l:=t.qJ) [];have hcs:=ZEY (σ:=ext σ to (Ka s2 (XQ t.qJ).length).2) (comp:=ext comp (XQ t.qJ) (Ka s2 (XQ t.qJ).length).2) (ad.imp fun a b C r E=>r.co _ _ E (XQ t.qJ) (hTB.one C) hL fun z p=>T z (.inl ⟨a,C,p⟩));have S:=Zqd (σ:=ext σ to (Ka s2 (XQ t.qJ).length).2) (comp:=ext comp (XQ t.qJ) (Ka s2 (XQ t.qJ).length).2) (ak.imp fun a b C r E=>r.co _ _ E fun z p=>T z (.inr ⟨a,C,p⟩));rw[ZiB (t:=.mk t.op (tx0 env t.qG) (t.args.map (QK env)) rd.2 rk.2) h4,ZiB (t:=t) h4,hin1,hin2];dsimp only;rw[hcs,S,ZXU,har]
 .intro s env t rk h4 hk k bad D hI hb B;have hT:ZeM t=true:=((YR _).1 D.Q6).1;have W:=Zd7 hT h4;have h4':(t.op==4)=false:=by simpa using h4
  have hln:=Znv t;rw[Zxy,h4',Jx]at B;have⟨ZMw,Zyz⟩:=B;rw[Cq0]at Zyz;have⟨i3,u3,ak⟩:=Zf4 hk (fun a C=>D.kid (XB C)) hb Zyz k ⟨⟨hI.1.1,by have:=hI.1.2;omega⟩,hI.2⟩;have G:bl t=[]:=by unfold bl;rw[h4'];rfl
  refine⟨i3.1,u3,ZxH D hI.2.2 heS Zun heL hb ZMw (by rw[W];exact K1 _) ak.len (by rw[W];exact GH _) (ZcS ak fun a b r=>r.len) (fun d K=>by cases K) (fun d K=>by have⟨_,_,r⟩:=ak.right d K;exact r.lo) ?_ ?_⟩;.rw[h4',G,W];simp only[GQ,Jn,Cq0,ZbV];exact ZIo ak
  intro σ comp s2 F htx har;have S:=Zqd (σ:=σ) (comp:=comp) (ak.imp fun a b C r E=>r.co _ _ E fun z p=>F z ((JJ t z).2 (.inr ⟨.inr ⟨a,C,p⟩,by rw[G];exact fun h=>by cases h⟩)));rw[ZeD (t:=.mk t.op (tx0 env t.qG) (t.args.map (QK env)) [] rk.2) h4,ZeD (t:=t) h4];dsimp only;rw[S,htx,har]
 .intro s env c rd rk h2 K hk k bad D hI hb B;have hC:K7 c=true:=((YR _).1 D.Q6).1
  have hj0:c.qV=[]:=by
   rcases(Zay hC).2 with h|h
   .omega
   exact h.2
  have hln:=ZiQ c;rw[ZsR,h2,show((2:Int)==2)=true from rfl,Cq1,Jx]at B;have⟨i2,u2,ad⟩:=ZqE K (fun a C=>D.kid (Xn C)) hb B.1 (k+12000*(c.qQ.map fun a=>ln (.pr a)).sum) ⟨⟨hI.1.1,by have:=hI.1.2;omega⟩,hI.2⟩;have⟨i3,u3,ak⟩:=Zf4 hk (fun a C=>D.kid (YU C)) hb B.2 k i2;have A:=hI.2.2.enl Zun heL;have hl:=D.lo.loc;refine⟨i3.1,fun y hy=>u3 y (u2 y hy),⟨?_,?_,?_,by rw[hj0];rfl,?_,fun σ comp s2 L hTB hL F=>?_⟩⟩;.have h1:=ZcS ad fun a b r=>r.len;have h3:=ZcS ak fun a b r=>r.len;rw[ZiQ,ZiQ c];show(rd.2.map fun a=>ln (.cl a)).sum+(rk.2.map fun a=>ln (.pr a)).sum+1<=_;omega
  .rw[Zmw];refine⟨⟨A.Q5 hl.1,GH _,by show rd.2.length<=_;rw[ad.len];exact hl.2.2.1,by show rk.2.length<=_;rw[ak.len];exact hl.2.2.2.1,fun m Q=>by cases Q⟩,fun q h=>?_⟩;simp only[ZP,Q3,JT]at h;rcases h with⟨d,K,rfl⟩|⟨d,K,rfl⟩
   .have⟨_,_,r⟩:=ad.right d K;exact r.lo
   have⟨_,_,r⟩:=ak.right d K;exact r.lo
  .rw[Zph,Zph c,hj0];show rd.2.flatMap (fun d=>fv (.cl d) [])++fvN [] (rk.2.flatMap fun k=>fv (.pr k) [])=(c.qJ.flatMap (fun d=>fv (.cl d) [])++fvN [] (c.qQ.flatMap fun k=>fv (.pr k) [])).flatMap fun z=>Qk (vl env z);rw[ZbV,ZbV,ZUJ ad,ZIo ak,Gk]
  .rw[Wj,Wj c];show(bif c.qX==2 then(Q5 env c.qG,rd.2)::rd.2.flatMap Qa else []).map sg=_;rw[h2];show sg (Q5 env c.qG,rd.2)::(rd.2.flatMap Qa).map sg=rnS (Q5 env) (sg (c.qG,c.qJ))::(c.qJ.flatMap Qa).map (fun sp=>rnS (Q5 env) (sg sp))
   have e1:sg (Q5 env c.qG,rd.2)=rnS (Q5 env) (sg (c.qG,c.qJ)):=by
    unfold sg rnS;show(Q5 env c.qG,(jns rd.2).map mq)=(Q5 env c.qG,((jns c.qJ).map mq).map fun q=>(Q5 env q.1,q.2));rw[ZBd ad]
   rw[e1,ZAz ad,Gf];rfl
  have ZYu:TB L c.qJ:=hTB.sub (List.mem_singleton_self c) h2;have hcs:=ZEY (σ:=σ) (comp:=comp) (ad.imp fun a b C r E=>r.co _ _ E L (ZYu.one C) hL fun z p=>F z ((UX c z).2 (.inl ⟨a,C,p⟩)));have S:=Zqd (σ:=σ) (comp:=comp) (ak.imp fun a b C r E=>r.co _ _ E fun z p=>F z ((UX c z).2 (.inr ⟨⟨a,C,p⟩,by rw[hj0];exact fun h=>by cases h⟩)));rw[ZbJ (c:=.mk c.qX (Q5 env c.qG) [] rd.2 rk.2) h2,ZbJ (c:=c) h2];dsimp only;rw[hcs,S,hL _ (hTB.qG (List.mem_singleton_self c) h2)]
 intro s env en c s1 to rk h2 hbd A hk k bad D hI hb B;have⟨hIC,hK,hE⟩:=hI;have hC:K7 c=true:=((YR _).1 D.Q6).1
 have hf:c.qX=1:=by
  rcases(Zay hC).2 with h|h
  .exact h
  exact absurd h.1 h2
 have hf2:(c.qX==2)=false:=by simpa using h2
 have⟨ht,W⟩:=Zd9 hC hf;have⟨_,_,kd,hkd⟩:=JY hC;have hjl:=ZkS hC;have hln:=ZiQ c;have hC':=hC;unfold K7 at hC';rw[hf]at hC';simp only[Int.reduceBEq,Cq0,Ba0,beq_iff_eq,decide_eq_true_eq]at hC';obtain⟨hk1,⟨⟨⟨⟨_,_⟩,_⟩,hj0⟩,hj3⟩,hjW⟩:=hC';have⟨w1,w2,w3⟩:=(ZBe _ _ _).1 hjW
 have hlK:∀n∈ZA c.qV,n∈K0:=fun n hn=>by
  have⟨m,Q,hn⟩:=Q1.1 hn;exact D.sk.self _ (Kd _ (Q1.2 ⟨m,Q,Kd _ hn⟩))
 have⟨hNw,⟨hA1,hl1⟩,hEM⟩:=ZEr hbd hIC.1 (by have:=hIC.2;omega) (fun n hn=>hK _ (hlK n hn)) w3 fun m Q=>hK _ (hMK m ((hM m).2 Q));have hE1:ZeS x e K0 s1 en:=by rw[A];exact hE.bind hNw hK
 have hK1:∀y∈K0,y∈Yb s1:=fun y hy=>hNw.up y (hK y hy);have X:=Zxv hb w3 hNw.len;rw[<-A]at X;rw[ZsR,hf2,Cq0]at B;have⟨i3,u3,ak⟩:=Zf4 hk (fun a C=>D.kid (YU C)) X B k ⟨⟨hA1,by have:=hIC.2;omega⟩,hK1,hE1⟩;have hjn:ZA (c.qV.map (Zaa env en))=to:=by rw[Zuf,A];exact ZvQ w3 hNw.len
 have ZYi:=hE.enl Zun heL;have ZSY:=hE1.enl Zun heL;have hl:=D.lo.loc
 have P:∀z,(∃k∈c.qQ,z∈fv (.pr k) [])->z∉ZA c.qV->∀m∈Qk (vl env z),m∉to:=fun z F V=>by
  have hzf:z∈fv (.cl c) []:=(UX c z).2 (.inr ⟨F,V⟩);refine hE.cap hNw hM hMK hEM hlK hK V (ZKs _ D.sk z hzf) fun ez=>?_;simp only[frP,hkd,List.mem_filter];rw[<-ez];have⟨q,hq,F⟩:=F;rw[hkd,J1]at hq;subst hq;exact⟨ZjI.2 F,by simpa using V⟩
 refine⟨i3.1,fun y hy=>u3 y (hNw.up y hy),⟨?_,?_,?_,?_,?_,fun σ comp s2 L hTB hL F=>?_⟩⟩;.have h3:=ZcS ak fun a b r=>r.len;rw[ZiQ,ZiQ c];show(([]:U Za).map fun a=>ln (.cl a)).sum+(rk.2.map fun a=>ln (.pr a)).sum+1<=_;rw[W];simp only[List.map_nil,List.sum_nil];omega
 .rw[Zmw];refine⟨⟨GH _,by show(c.qV.map _).length<=_;rw[G5];exact hl.2.1,GH _,by show rk.2.length<=_;rw[ak.len];exact hl.2.2.2.1,fun m Q=>?_⟩,fun q h=>?_⟩;.obtain⟨m0,hm0,rfl⟩:=JT.1 Q;have⟨a1,a2,a3⟩:=hl.2.2.2.2 m0 hm0;refine⟨ZYi.Q5 a1,by show(m0.names.map _).length<=_;rw[G5];exact a2,fun z F=>?_⟩;obtain⟨z0,hz0,rfl⟩:=JT.1 (show z∈m0.names.map (Q5 en) from F);exact ZSY.Q5 (a3 z0 hz0)
  simp only[ZP,List.map_nil,Jn,JT]at h;obtain⟨d,K,rfl⟩:=h;have⟨_,_,r⟩:=ak.right d K;exact r.lo
 .rw[Zph,Zph c,W];show([]:U Za).flatMap (fun d=>fv (.cl d) [])++fvN (ZA (c.qV.map (Zaa env en))) (rk.2.flatMap fun k=>fv (.pr k) [])=_;rw[hjn];rw[A]at ak;rw[ZIo ak];exact Zpk w3 hNw.len _ fun z F=>P z (by simpa only[Q1]using F)
 .show(c.qV.map (Zaa env en)).map mq=_;rw[Gf];refine Gh fun m Q=>?_;show(Q5 env m.qG,(m.names.map (Q5 en)).length)=_;rw[G5]
 .rw[Wj,Wj c];show(bif c.qX==2 then _ else []).map sg=_;rw[hf2];rfl
 have hin1:inC bdC s2 σ (.mk c.qX E0 (c.qV.map (Zaa env en)) [] rk.2)=((Ka s2 (ZA c.qV).length).1,ext σ to (Ka s2 (ZA c.qV).length).2):=by
  unfold inC;show(bif c.qX==2 then _ else((Ka s2 (ZA (c.qV.map (Zaa env en))).length).1,ext σ (ZA (c.qV.map (Zaa env en))) (Ka s2 (ZA (c.qV.map (Zaa env en))).length).2))=_;rw[hf2,hjn,<-hNw.len];rfl
 have hin2:inC bdC s2 comp c=((Ka s2 (ZA c.qV).length).1,ext comp (ZA c.qV) (Ka s2 (ZA c.qV).length).2):=by
  unfold inC;rw[hf2];rfl
 have T:∀z,(∃k∈c.qQ,z∈fv (.pr k) [])->QK (ext σ to (Ka s2 (ZA c.qV).length).2) (vl en z)=vl (ext comp (ZA c.qV) (Ka s2 (ZA c.qV).length).2) z:=fun z p=>by
  rw[A];exact Zhd w3 hNw.nd hNw.len (Wv _ _).symm fun h=>⟨P z p h,F z ((UX c z).2 (.inr ⟨p,h⟩))⟩
 have hL1:∀z∈ZA c.qV,Q5 (ext σ to (Ka s2 (ZA c.qV).length).2) (Q5 en z)=Q5 (ext comp (ZA c.qV) (Ka s2 (ZA c.qV).length).2) z:=fun z p=>by
  have h1:=Zhd (env:=env) (σ:=σ) (comp:=comp) (z:=z) w3 hNw.nd hNw.len (Wv (ZA c.qV).length s2).symm fun h=>absurd p h;rw[<-A]at h1;have⟨w,_,e⟩:=ZvO (env:=env) w3 hNw.len p;rw[<-A]at e;rw[e,Zae]at h1;rw[Ui en,e,Ui,Ui,<-h1];rfl
 have S:=Zqd (σ:=ext σ to (Ka s2 (ZA c.qV).length).2) (comp:=ext comp (ZA c.qV) (Ka s2 (ZA c.qV).length).2) (ak.imp fun a b C r E=>r.co _ _ E fun z p=>T z ⟨a,C,p⟩);have hBt:∀m∈c.qV,m.qG∈L:=fun m Q=>hTB.j (E0,[c]) Gg c (List.mem_singleton_self c) m Q
 have hms:(c.qV.map (Zaa env en)).map (Zaa σ (ext σ to (Ka s2 (ZA c.qV).length).2))=c.qV.map (Zaa comp (ext comp (ZA c.qV) (Ka s2 (ZA c.qV).length).2)):=by
  rw[Gf];refine Gh fun m Q=>?_;show ZN.mk (Q5 σ (Q5 env m.qG)) ((m.names.map (Q5 en)).map _)=ZN.mk (Q5 comp m.qG) (m.names.map _);rw[hL _ (hBt m Q),Gf];congr 1;exact Gh fun n hn=>hL1 n (Q1.2 ⟨m,Q,hn⟩)
 rw[ZeE (c:=.mk c.qX E0 (c.qV.map (Zaa env en)) [] rk.2) h2,ZeE (c:=c) h2,hin1,hin2];dsimp only;rw[S,hms]
end
section
def JG(l:U Y)(m:MB):MB:=l.foldl (fun m s=>Yu m s true) m
def KG(a b:U Y)(m:MB):JG (a++b) m=JG b (JG a m):=List.foldl_append
def Zbt:∀(l:U Y)(m:MB)(z:Y),z∈Yb (JG l m)↔z∈Yb m\/z∈l
 | [],m,z=>by simp[JG]
 | y::l,m,z=>by
   show z∈Yb (JG l (Yu m y true))↔_;rw[Zbt l];unfold Yb;rw[Zen];by_cases h:y∈m.map (·.1)
   .rw[if_pos h,K2];exact⟨fun q=>q.imp id .inr,fun q=>q.elim .inl fun q=>q.elim (fun e=>.inl (e▸h)) .inr⟩
   rw[if_neg h,Q3,J1,K2,or_assoc]
def JI.JG{m:MB}(h:JI m):∀(l:U Y),JI (JG l m)
 | []=>h
 | y::l=>JI.JG (h.Yu y) l
def Zrd{m:MB}{y:Y}:(Yu m y true).length<=m.length+1:=by have:=congrArg List.length (Zen m y true);rw[G5]at this;rw[this];split<;>simp
def Zhn:∀(l:U Y)(m:MB),(JG l m).length<=m.length+l.length
 | [],m=>K1 _
 | y::l,m=>by
   have:=Zhn l (Yu m y true);have:=Zrd (m:=m) (y:=y);show(JG l (Yu m y true)).length<=_;simp only[Kx];omega
def Zyf(l:U Y)(m:MB):notes [] l m=JG l m:=by unfold notes JG note;simp only[KB,if_false]
def ZCI{F:Nat}(l:10000000000000000000<=F)(e:Zf)(h:(pre (.ex e)).all Q6=true)(hn:(pre (.ex e)).length<=60):ZDk F e=some (JG (Qk e) []):=by unfold ZDk Zxg;rw[ZKv l Zvx (by simp only[Kx,GK];omega) 60 e [] h hn Vc F Vb,Zyf];rfl
def ZFR{F:Nat}(hF:10000000000000000000<=F):∀n p,(pre p).all Q6=true->(pre p).length<=n->n<=60->∀Fr,n<=Fr->∀h,loop Fr (Zh4 F) (p,h)=some (true,JG ((pre p).flatMap strs) h):=by
 intro n
 induction n with|zero=>intro p _ hn;have:=Xb p;omega|succ n ih=>
   intro p P hn h60 Fr X h;obtain⟨G,rfl⟩:∃G,Fr=G+1:=⟨Fr-1,by omega⟩;rw[Z7];have D:∀k∈ZP p,∀h,loop G (Zh4 F) (k,h)=some (true,JG ((pre k).flatMap strs) h):=fun k r=>ih k (((YR _).1 P).2 _ r) (by have:=Yv r;omega) Vb G Vb;have W:=Wp p;generalize loop G (Zh4 F)=nx at D
   have r:∀h,loop F (Zdx nx (ZP p)) (0,h)=some (true,JG (((ZP p).flatMap pre).flatMap strs) h):=fun h=>by
    refine Yw (body:=Zdx nx (ZP p)) (fun(k:Nat)(s:MB)=>((k:Int),s)) (ZP p) (fun _ _=>True) (fun rest s=>some (true,JG ((rest.flatMap pre).flatMap strs) s)) (F:=F) ?_ ?_ Vb h trivial;.intro s l _;simp only[Zdx,Yi,Cq0];rfl
    intro k x rest s l Q r L _ B;simp only[Zdx,Yc r,Cq1,L,Bq0,D x Q,J0,Cq0];rw[Ja Vb,B _ trivial,Kf,Gk,KG]
   have C:=parts_eq hF p (show(ZP p).length<=BS by unfold BS;omega);cases p with
   | pr t=>
     show((WW F (Part.pr t)).bind fun A=>loop F (Zdx nx A) (0,Yu h t.qG true))=_;rw[C,Bq0,r,pre_eq,Kf,KG];rfl
   | ex e=>
     show((WW F (Part.ex e)).bind fun A=>loop F (Zdx nx A) (0,Yu h e.qG true))=_;rw[C,Bq0,r,pre_eq,Kf,KG];rfl
   | cl c=>
     have hC:K7 c=true:=((YR _).1 P).1;have⟨h3,hn3,_⟩:=JY hC;show loop F (Zh5 F nx c) (0,Yu h c.qG true)=_;have:=Yw (body:=Zh5 F nx c) (fun(k:Nat)(s:MB)=>((k:Int),s)) c.qV (fun _ _=>True) (fun rest s=>some (true,JG (((ZP (.cl c)).flatMap pre).flatMap strs) (JG (rest.flatMap fun m=>m.qG::m.names) s))) (F:=F) ?_ ?_ Vb (Yu h c.qG true) trivial;.refine this.trans ?_;rw[pre_eq,Kf,KG];rfl
     .intro s l _;simp only[Zh5,Yi,Cq0,J0,C,Bq0];exact r s
     intro k m rest s l V I L _ B;simp only[Zh5,Yc I,Cq1,L,Bq0];have T:=hn3 m V;have:=Yw (body:=Zls (k:Int) l m) (fun(q:Nat)(s:MB)=>((q:Int),s)) m.names (fun _ _=>True) (fun rest s=>l (XD ((k:Int)+1),JG rest s)) (F:=F) ?_ ?_ Vb (Yu s m.qG true) trivial;.refine this.trans ?_;rw[Ja Vb,B _ trivial,Kf,KG];rfl
     .intro s ZXh _;simp only[Zls,Yi,Cq0];rfl
     intro q y rest s ZXh hy S K _ E;simp only[Zls,Yc S,Cq1,K,Bq0];rw[Ja Vb];exact E _ trivial
def ZN6{F:Nat}(l:10000000000000000000<=F)(t:Term)(h:(pre (.pr t)).all Q6=true)(hn:(pre (.pr t)).length<=60):ZDj F t=some (JG ((pre (.pr t)).flatMap strs) []):=by unfold ZDj;rw[ZFR l 60 (.pr t) h hn Vc F Vb];rfl
def ZAc{p:Part}(h:Q6 p=true):(strs p).length<=13:=by
 cases p with|pr t=>simp[strs]|ex e=>simp[strs]|cl c=>
   have⟨h3,hn3,_⟩:=JY (show K7 c=true from h)
   have:∀l:U ZN,(∀m∈l,m.names.length<=3)->(l.flatMap fun m=>m.qG::m.names).length<=4*l.length:=by
    intro l
    induction l with|nil=>intro _;simp|cons m l q=>
      intro h;have a:=h m (by simp);have b:=q fun x r=>h x (Kd _ r);rw[Kf,Ks,Kx,Kx];omega
   have:=this c.qV hn3;show(c.qG::_).length<=13;rw[Kx];omega
def ZC5:∀(l:U Part),(∀p∈l,Q6 p=true)->(l.flatMap strs).length<=13*l.length
 | [],_=>K1 _
 | p::l,h=>by
   have a:=ZAc (h p (by simp));have b:=ZC5 l fun x q=>h x (Kd _ q)
   rw[Kf,Ks,Kx];omega
def tkP(x:Y)(e:Zf)(t:Term):MB:=Go.ZU.Zm8 (Yu (JG ((pre (.pr t)).flatMap strs) []) x true) (JG (Qk e) [])
def Zoe(m l:MB):Go.ZU.Zm8 m l=JG (l.map (·.1)) m:=by unfold Go.ZU.Zm8 JG;rw[List.foldl_map]
def ZA2{m:MB}{y z:Y}:z∈Yb (Yu m y true)↔z∈Yb m\/z=y:=by have:=Zbt [y] m z;rw[J1]at this;exact this
def Zwl{x:Y}{e:Zf}{t:Term}(z:Y):z∈Yb (tkP x e t)↔(z∈(pre (.pr t)).flatMap strs\/z=x)\/z∈Qk e:=by
 unfold tkP;rw[Zoe,Zbt,ZA2,Zbt]
 have:z∈(JG (Qk e) []).map (·.1)↔z∈Qk e:=by
  have:=Zbt (Qk e) [] z;unfold Yb at this;simpa using this
 rw[this];simp[Yb]
def Ztd:JI []:=fun p h=>by cases h
def ZAa{x:Y}{e:Zf}{t:Term}(h:(pre (.pr t)).all Q6=true)(hn:(pre (.pr t)).length<=60)(he:(pre (.ex e)).length<=60):JI (tkP x e t)/\(tkP x e t).length<=2000:=by unfold tkP;rw[Zoe];refine⟨((Ztd.JG _).Yu x).JG _,?_⟩;have h1:=Zhn ((JG (Qk e) []).map (·.1)) (Yu (JG ((pre (.pr t)).flatMap strs) []) x true);have h2:=Zrd (m:=JG ((pre (.pr t)).flatMap strs) []) (y:=x);have p:=Zhn ((pre (.pr t)).flatMap strs) [];have l:=Zhn (Qk e) [];have r:=ZC5 (pre (.pr t)) (Q2.1 h);have q:=Zgk e;rw[G5]at h1;simp only[GK]at p l;omega
def ZoG(x:Y)(e:Zf)(t:Term):Term:=ZLF x e (JG (Qk e) []) (tkP x e t) t
def ZRp(e:Zf)(m:Y):m∈Qk e↔(ZC (JG (Qk e) []) m).getD false=true:=by rw[(Ztd.JG (Qk e)).get m,decide_eq_true_iff,Zbt];simp[Yb]
def ZHr{t:Term}(h:XK AgW (.pr t)=true)(r:Lo (.pr t)){K0:U Y}(x:∀z∈(pre (.pr t)).flatMap strs,z∈K0):NH K0 (.pr t):=by have⟨a,b⟩:=Xu h;unfold XK at h;simp only[Ba0,decide_eq_true_eq]at h;exact⟨a,h.2,r,b,fun q p s l=>x s (Q1.2 ⟨q,p,l⟩)⟩
def Zjy{t:Term}{x:Y}{e:Zf}(h:XK AgW (.pr t)=true)(C:Lo (.pr t))(he:XK AgW (.ex e)=true)(r:Lo (.ex e))(D:bT (Zis x e) t=false):Zzy [(x,e)] t (ZoG x e t):=by
 have⟨e1,e2⟩:=Xu he;have p:=ZHr (K0:=Yb (tkP x e t)) h C fun z l=>(Zwl z).2 (.inl (.inl l));have⟨a,b⟩:=ZAa (x:=x) (e:=e) p.Q6 p.le e2;refine((ZGc (K0:=Yb (tkP x e t)) e1 e2 r (ZRp e) fun m B=>(Zwl m).2 (.inr B)).1 t (tkP x e t) [(x,e)] 0 (Zis x e) p ⟨⟨a,by have:=p.le;unfold ln at *;omega⟩,fun y A=>A,⟨[],rfl,fun z v hv=>by cases hv⟩⟩ (fun z l=>?_) D).2.2;unfold Zis;have hv:vl [(x,e)] z=if z=x then e else JR z:=Zkb (inn:=[]) z;rw[hv]at l;by_cases q:z=x;.rw[if_pos q]at l;rw[decide_eq_true q,show(e.op==2)=false by simpa using l];rfl
 rw[if_neg q]at l;exact absurd rfl l
def ZkI{t:Term}{z:Y}:z∈Ze1 t↔z∈fv (.pr t) []:=by rw[<-ZjI];have⟨_,k2,_⟩:=UW (WB (.pr t) []) [] List.nodup_nil;unfold Yb Ze1;rw[k2,Zej];simp
def KL(x:Y)(e:Zf)(z:Y):vl [(x,e)] z=if z=x then e else JR z:=Zkb (inn:=[]) z
def Ql(t:Term)(x:Y)(e:Zf):Term×Int:=
 bif XK AgW (.pr t)&&Xt x&&XK AgW (.ex e) then
  bif decide (x∈Ze1 t) then bif bT (Zis x e) t then(.mk 0 (⟨#[]⟩:Y) [] [] [],7) else bif XK AgW (.pr (ZoG x e t)) then(ZoG x e t,0) else(.mk 0 (⟨#[]⟩:Y) [] [] [],3) else(t,0)
 else(.mk 0 (⟨#[]⟩:Y) [] [] [],2)
def Zv3{F:Nat}(l:10000000000000000000<=F)(t:Term)(x:Y)(e:Zf)(D:Lo (.pr t))(I:x.size<=BB)(q:Lo (.ex e))(B:(pre (.pr t)).length<=F)(C:(pre (.ex e)).length<=F):Zcy F t x e=some (Ql t x e):=by
 unfold Zcy Ql;rw[ZjX l t D B,Bq0];cases h:XK AgW (.pr t) with|false=>rfl|true=>
   rw[nameP l I];cases G:Xt x with|false=>rfl|true=>
     rw[ZEe l e q C];cases he:XK AgW (.ex e) with|false=>rfl|true=>
       have⟨a1,a2⟩:=Xu h;have⟨e1,e2⟩:=Xu he;show((ZbB F t).bind fun m=>(ZeN m x false).bind fun y=>bif !y then(ZuF F t).bind fun u=>some (u,0) else(ZHV F t x e).bind fun p=>JN p (fun k=>some (Term.mk 0 (⟨#[]⟩:Y) [] [] [],k)) fun u=>some (u,0))=some (bif decide (x∈Ze1 t) then _ else(t,0));have⟨f1,f2⟩:=ZbW l t a1 a2;rw[f1,Bq0,f2];show(bif !((ZC (YZ (WB (.pr t) []) []) x).getD false) then some (t,(0:Int)) else _)=_;rw[(Zqj (.pr t)).get x];have K:decide (x∈Yb (YZ (WB (.pr t) []) []))=decide (x∈Ze1 t):=by rw[decide_eq_decide,ZjI,ZkI]
       rw[K];cases decide (x∈Ze1 t) with|false=>rfl|true=>
         have⟨t1,t2⟩:=ZAa (x:=x) (e:=e) a1 a2 e2;have⟨ws,hw⟩:=ZQ9 l x (e:=e) (JG (Qk e) []) (tkP x e t) t a1 a2 e2 t1 Vb;unfold ZHV;rw[ZCI l e e1 e2,Bq0,ZN6 l t a1 a2,Bq0];show(((Ze8 F (U1 F (ZgP F x (JG (Qk e) []))) (fun t names=>Zcr F t names) (fun t=>ZbB F t) (([],tkP x e t),[[(x,e)]],t)).bind fun p=>JN p (fun k=>some (PR.Ym k)) fun r=>(Zcz F r.2).bind fun c=>bif c !=0 then some (PR.Ym 3) else some (PR.ok r.2)).bind fun p=>JN p (fun k=>some (Term.mk 0 (⟨#[]⟩:Y) [] [] [],k)) fun u=>some (u,0))=some (bif bT (Zis x e) t then _ else _);rw[hw,Bq0];cases L:bT (Zis x e) t with|true=>rfl|false=>
           have E:=Zjy (x:=x) h D he q L;have A:(pre (.pr (ZoG x e t))).length<=F:=by have:=E.len;unfold ln at this;omega
           simp only[Cq0,Zec];rw[show ZLF x e (JG (Qk e) []) (tkP x e t) t=ZoG x e t from rfl,ZjX l _ E.lo A,Bq0];cases XK AgW (.pr (ZoG x e t))<;>rfl
def QY{h:Type}(a b:h):Z:=@decide (a=b) (Classical.propDecidable _)
def XF{h:Type}{a b:h}:QY a b=true↔a=b:=by unfold QY;exact @decide_eq_true_iff _ (Classical.propDecidable _)
def ZlX{h:Type}(a:h):QY a a=true:=XF.2 rfl
def Zbf{l:Type}{a b:l}(h:a≠b):QY a b=false:=by
 cases e:QY a b;.rfl
 exact absurd (XF.1 e) h
def Ue{t:Type}(l r:U t)(hn:l.length=r.length)(y:l.length<=BS){body:Int->(Int->O Z)->O Z}{fin:O Z}
 (A:∀(k:Nat)(h:k<l.length) p,body (k:Int) p=bif QY l[k] (r[k]'Vb) then p ((k+1:Nat):Int) else some false)
 (he:∀p,body (l.length:Int) p=fin) {F:Nat} (B:10000000000000000000<=F):loop F body 0=bif QY l r then fin else some false:=by
 unfold BS at y
 have:=Zgr (body:=body) (r1:=some false) (r2:=fin) (fun k:Nat=>(k:Int)) (fun k=>!QY l[k]? r[k]?) (n:=l.length) (F:=F) Vb
  (fun k q p=>by
    rw[A k q p,Q4 q,Q4 (show k<r.length by omega)]
    have:QY (some l[k]) (some (r[k]'Vb))=QY l[k] (r[k]'Vb):=by
     rw[Gt,XF,XF];simp
    rw[this];cases QY l[k] (r[k]'Vb)<;>rfl) he
 refine(show loop F body 0=loop F body ((0:Nat):Int) from rfl).trans (this.trans ?_);cases h:QY l r with
 | true=>
   have e:=XF.1 h;subst e
   have:(List.range l.length).any (fun k=>!QY l[k]? l[k]?)=false:=by
    rw[List.any_eq_false];intro k _;rw[ZlX];simp
   rw[this];rfl
 | false=>
   have:(List.range l.length).any (fun k=>!QY l[k]? r[k]?)=true:=by
    rw[GF];refine Decidable.byContradiction fun x=>?_
    have:l=r:=GL fun k=>by
     by_cases q:k<l.length
     .refine XF.1 ?_;cases e:QY l[k]? r[k]?;.exact absurd ⟨k,GP.2 q,by rw[e];rfl⟩ x
      rfl
     rw[G0 Vb,G0 Vb]
    rw[XF.2 this]at h;cases h
   rw[this];rfl
def okS:Part->Prop
 | .pr t=>t.args.length<=BS/\t.qJ.length<=BS/\t.qQ.length<=BS
 | .ex e=>e.qQ.length<=BS
 | .cl c=>c.qV.length<=BS/\(∀m∈c.qV,m.names.length<=BS)/\c.qJ.length<=BS/\c.qQ.length<=BS
def U7(p:Part):Prop:=∀q∈pre p,okS q
def Zak{p:Part}(h:U7 p):okS p:=h p (Xl p)
def JD{p k:Part}(h:U7 p)(r:k∈ZP p):U7 k:=fun q l=>h q (Xi r l)
def Za7{p β:Type}{l:U p}{r:U β}(h:l.length=r.length):((l.length:Int) !=(r.length:Int))=false:=by rw[h];exact Zgm _
def Zt0{F:Nat}(y:10000000000000000000<=F)(l r:U Y)(q:l.length<=BS):ZbC F l r=some (QY l r):=by
 unfold ZbC;by_cases p:l.length=r.length
 .rw[Za7 p,Cq0];refine(Ue l r p q (fin:=some true) (fun k t x=>?_) (fun x=>?_) y).trans ?_
  .unfold BS at q;simp only[Zpv,Yc t,Cq1,QN t,QN (show k<r.length by omega),Bq0,Zi9 (show k<4611686018427387904 by omega)];by_cases e:l[k]=r[k]'Vb;.rw[XF.2 e];simp[e]
   rw[Zbf e];simp[e]
  .simp[Zpv]
  cases QY l r<;>rfl
 have:((l.length:Int) !=(r.length:Int))=true:=by simpa using fun h=>p Vb
 rw[this,Cq1,Zbf fun h=>p (congrArg _ h)]
def ZDT{F:Nat}(B:10000000000000000000<=F):∀n a b,U7 (.ex a)->(pre (.ex a)).length<=n->∀Fr,n<=Fr->loop Fr (Zr8 F) (a,b)=some (QY a b):=by
 intro n
 induction n with|zero=>intro a b _ A;have:=Xb (.ex a);omega|succ n ih=>
   intro a b t A Fr C;obtain⟨m,rfl⟩:∃m,Fr=m+1:=⟨Fr-1,by omega⟩;rw[Z7];show(bif((((a.op !=b.op)||(a.n !=b.n))||(!decide (a.qG=b.qG)))||((a.qQ.length:Int) !=(b.qQ.length:Int))) then some false else loop F (Zlq a b (loop m (Zr8 F))) 0)=_;by_cases h:a.op=b.op/\a.n=b.n/\a.qG=b.qG/\a.qQ.length=b.qQ.length
   .have⟨h1,h2,h3,h4⟩:=h;rw[h1,h2,h3,Za7 h4,Zgm,Zgm,decide_eq_true rfl];simp only[Bool.or_self,J0,Cq0];have x:a.qQ.length<=BS:=Zak t;refine(Ue a.qQ b.qQ h4 x (fin:=some true) (fun k r y=>?_) (fun y=>?_) B).trans ?_;.have l:Part.ex a.qQ[k]∈ZP (.ex a):=JT.2 ⟨_,GE r,rfl⟩;have:=ih a.qQ[k] (b.qQ[k]'Vb) (JD t l) (by have:=Yv l;omega) m Vb;unfold BS at x;simp only[Zlq,Yc r,Cq1,QN r,QN (show k<b.qQ.length by omega),Bq0,this,Zi9 (show k<4611686018427387904 by omega)];cases QY a.qQ[k] (b.qQ[k]'Vb)<;>rfl
    .simp[Zlq]
    have:QY a b=QY a.qQ b.qQ:=by
     rw[Gt,XF,XF];cases a;cases b;simp only[Zf.mk.injEq]at *;exact⟨fun h=>h.2.2.2,fun h=>⟨h1,h2,h3,h⟩⟩
    rw[this];cases QY a.qQ b.qQ<;>rfl
   have q:a≠b:=fun e=>h ⟨by rw[e],by rw[e],by rw[e],by rw[e]⟩
   have:((((a.op !=b.op)||(a.n !=b.n))||(!decide (a.qG=b.qG)))||((a.qQ.length:Int) !=(b.qQ.length:Int)))=true:=by
    refine Decidable.byContradiction fun p=>h ?_;simp only[Bool.not_eq_true,Jx,bne_eq_false_iff_eq,Bool.not_eq_false',decide_eq_true_eq]at p;exact⟨p.1.1.1,p.1.1.2,p.1.2,by omega⟩
   rw[this,Cq1,Zbf q]
def Zse{F:Nat}(B:10000000000000000000<=F)(q:Term×Term->O Z)(l r:U Term)(A:l.length<=BS)(t:∀k∈l,∀y,q (k,y)=some (QY k y)):Zsf F q l r=some (QY l r):=by
 unfold Zsf;by_cases p:l.length=r.length
 .rw[Za7 p,Cq0];refine(Ue l r p A (fin:=some true) (fun k x q=>?_) (fun q=>?_) B).trans ?_;.unfold BS at A;simp only[Zpu,Yc x,Cq1,QN x,QN (show k<r.length by omega),Bq0,t _ (GE x),Zi9 (show k<4611686018427387904 by omega)];cases QY l[k] (r[k]'Vb)<;>rfl
  .simp[Zpu]
  cases QY l r<;>rfl
 have:((l.length:Int) !=(r.length:Int))=true:=by simpa using fun h=>p Vb
 rw[this,Cq1,Zbf fun h=>p (congrArg _ h)]
def ZDd{F:Nat}(x:10000000000000000000<=F)(q:Term×Term->O Z)(B:Nat)(D:∀k:Term,(pre (.pr k)).length<B->U7 (.pr k)->∀y,q (k,y)=some (QY k y)):∀n a b,U7 (.cl a)->(pre (.cl a)).length<=n->n<=B->∀Fr,n<=Fr->loop Fr (Zlo F q) (a,b)=some (QY a b):=by
 intro n
 induction n with|zero=>intro a b _ I;have:=Xb (.cl a);omega|succ n ih=>
   intro a b C I Q Fr P;obtain⟨m,rfl⟩:∃m,Fr=m+1:=⟨Fr-1,by omega⟩;rw[Z7];show(bif((((a.qX !=b.qX)||(!decide (a.qG=b.qG)))||((a.qV.length:Int) !=(b.qV.length:Int)))||((a.qJ.length:Int) !=(b.qJ.length:Int))) then some false else loop F (Zlp F a b q (loop m (Zlo F q))) 0)=_;by_cases h:a.qX=b.qX/\a.qG=b.qG/\a.qV.length=b.qV.length/\a.qJ.length=b.qJ.length
   .have⟨h1,h2,h3,h4⟩:=h;rw[h1,h2,Za7 h3,Za7 h4,Zgm,decide_eq_true rfl];simp only[Bool.or_self,J0,Cq0];have⟨o1,o2,o3,o4⟩:=Zak C;have l:Zsf F q a.qQ b.qQ=some (QY a.qQ b.qQ):=Zse x q _ _ o4 fun k l y=>D k (by have:=Yv (p:=.cl a) (k:=.pr k) (by simp only[ZP,Q3,JT];exact .inr ⟨k,l,rfl⟩);omega) (JD C (by simp only[ZP,Q3,JT];exact .inr ⟨k,l,rfl⟩)) y
    have L:loop F (Zh3 F a b q (loop m (Zlo F q))) 0=bif QY a.qJ b.qJ then some (QY a.qQ b.qQ) else some false:=by
     refine Ue a.qJ b.qJ h4 o3 (fun k l t=>?_) (fun t=>?_) x
     .have r:Part.cl a.qJ[k]∈ZP (.cl a):=by simp only[ZP,Q3,JT];exact .inl ⟨_,GE l,rfl⟩
      have:=ih a.qJ[k] (b.qJ[k]'Vb) (JD C r) (by have:=Yv r;omega) Vb m Vb;unfold BS at o3;simp only[Zh3,Yc l,Cq1,QN l,QN (show k<b.qJ.length by omega),Bq0,this,Zi9 (show k<4611686018427387904 by omega)];cases QY a.qJ[k] (b.qJ[k]'Vb)<;>rfl
     simp only[Zh3,Yi,Cq0,l,Bq0]
    refine(Ue a.qV b.qV h3 o1 (fin:=loop F (Zh3 F a b q (loop m (Zlo F q))) 0) (fun k l t=>?_) (fun t=>?_) x).trans ?_
    .have K:=Zt0 x a.qV[k].names (b.qV[k]'Vb).names (o2 _ (GE l));unfold BS at o1;simp only[Zlp,Yc l,Cq1,QN l,QN (show k<b.qV.length by omega),Bq0,Zi9 (show k<4611686018427387904 by omega)]
     have e:QY a.qV[k] (b.qV[k]'Vb)=(decide (a.qV[k].qG=(b.qV[k]'Vb).qG)&&QY a.qV[k].names (b.qV[k]'Vb).names):=by
      rw[Gt,Ba0,XF,XF,decide_eq_true_iff];generalize a.qV[k]=u;generalize b.qV[k]'Vb=v;cases u;cases v;simp only[ZN.mk.injEq]
     rw[e];by_cases G:a.qV[k].qG=(b.qV[k]'Vb).qG;.rw[decide_eq_true G];simp only[J0,GM,gd,Cq1,Bq0,K,GX,Gv];cases QY a.qV[k].names (b.qV[k]'Vb).names<;>rfl
     rw[decide_eq_false G];simp only[J0,GM,gd,Cq0,Cq1,Bq0,Bool.true_or,Bool.false_and]
    .simp only[Zlp,Yi,Cq0]
    rw[L]
    have:QY a b=(QY a.qV b.qV&&(QY a.qJ b.qJ&&QY a.qQ b.qQ)):=by
     rw[Gt,Ba0,Ba0,XF,XF,XF,XF];cases a;cases b;simp only[Za.mk.injEq]at *;exact⟨fun h=>h.2.2,fun h=>⟨h1,h2,h⟩⟩
    rw[this];cases QY a.qV b.qV<;>cases QY a.qJ b.qJ<;>rfl
   have E:a≠b:=fun e=>h ⟨by rw[e],by rw[e],by rw[e],by rw[e]⟩
   have:((((a.qX !=b.qX)||(!decide (a.qG=b.qG)))||((a.qV.length:Int) !=(b.qV.length:Int)))||((a.qJ.length:Int) !=(b.qJ.length:Int)))=true:=by
    refine Decidable.byContradiction fun A=>h ?_;simp only[Bool.not_eq_true,Jx,bne_eq_false_iff_eq,Bool.not_eq_false',decide_eq_true_eq]at A;exact⟨A.1.1.1,A.1.1.2,by omega,by omega⟩
   rw[this,Cq1,Zbf E]
def ZxW{F:Nat}(x:10000000000000000000<=F):∀n a b,U7 (.pr a)->(pre (.pr a)).length<=n->n<=F->∀Fr,n<=Fr->loop Fr (Zi0 F) (a,b)=some (QY a b):=by
 intro n
 induction n with|zero=>intro a b _ E;have:=Xb (.pr a);omega|succ n ih=>
   intro a b A E I Fr L;obtain⟨m,rfl⟩:∃m,Fr=m+1:=⟨Fr-1,by omega⟩;rw[Z7];show(bif(((((a.op !=b.op)||(!decide (a.qG=b.qG)))||((a.args.length:Int) !=(b.args.length:Int)))||((a.qJ.length:Int) !=(b.qJ.length:Int)))||((a.qQ.length:Int) !=(b.qQ.length:Int))) then some false else loop F (ZlH F a b (loop m (Zi0 F))) 0)=_;by_cases h:a.op=b.op/\a.qG=b.qG/\a.args.length=b.args.length/\a.qJ.length=b.qJ.length/\a.qQ.length=b.qQ.length
   .have⟨h1,h2,h3,h4,h5⟩:=h;rw[h1,h2,Za7 h3,Za7 h4,Za7 h5,Zgm,decide_eq_true rfl];simp only[Bool.or_self,J0,Cq0];have⟨o1,o3,o4⟩:=Zak A;have t:∀k:Term,(pre (.pr k)).length<(pre (.pr a)).length->U7 (.pr k)->∀y,loop m (Zi0 F) (k,y)=some (QY k y):=fun k q G y=>ih k y G Vb Vb m Vb;have q:Zsf F (loop m (Zi0 F)) a.qQ b.qQ=some (QY a.qQ b.qQ):=Zse x _ _ _ o4 fun k q y=>t k (Yv (p:=.pr a) (k:=.pr k) (by simp only[ZP,Q3,JT];exact .inr ⟨k,q,rfl⟩)) (JD A (by simp only[ZP,Q3,JT];exact .inr ⟨k,q,rfl⟩)) y
    have K:loop F (ZlG F a b (loop m (Zi0 F))) 0=bif QY a.qJ b.qJ then some (QY a.qQ b.qQ) else some false:=by
     refine Ue a.qJ b.qJ h4 o3 (fun k q r=>?_) (fun r=>?_) x
     .have l:Part.cl a.qJ[k]∈ZP (.pr a):=by simp only[ZP,Q3,JT];exact .inl (.inr ⟨_,GE q,rfl⟩)
      have D:=Yv l;have:=ZDd x _ (pre (.pr a)).length t (pre (.cl a.qJ[k])).length a.qJ[k] (b.qJ[k]'Vb) (JD A l) Vc Vb F Vb;unfold BS at o3;simp only[ZlG,ZNY,Yc q,Cq1,QN q,QN (show k<b.qJ.length by omega),Bq0,this,Zi9 (show k<4611686018427387904 by omega)];cases QY a.qJ[k] (b.qJ[k]'Vb)<;>rfl
     simp only[ZlG,Yi,Cq0,q,Bq0]
    refine(Ue a.args b.args h3 o1 (fin:=bif QY a.qJ b.qJ then some (QY a.qQ b.qQ) else some false) (fun k q r=>?_) (fun r=>?_) x).trans ?_
    .have l:Part.ex a.args[k]∈ZP (.pr a):=by simp only[ZP,Q3,JT];exact .inl (.inl ⟨_,GE q,rfl⟩)
     have D:=Yv l;have:=ZDT x (pre (.ex a.args[k])).length a.args[k] (b.args[k]'Vb) (JD A l) Vc F Vb;unfold BS at o1;simp only[ZlH,ZHM,Yc q,Cq1,QN q,QN (show k<b.args.length by omega),Bq0,this,Zi9 (show k<4611686018427387904 by omega)];cases QY a.args[k] (b.args[k]'Vb)<;>rfl
    .simp only[ZlH,Yi,Cq0,K]
    have:QY a b=(QY a.args b.args&&(QY a.qJ b.qJ&&QY a.qQ b.qQ)):=by
     rw[Gt,Ba0,Ba0,XF,XF,XF,XF];cases a;cases b;simp only[Term.mk.injEq]at *;exact⟨fun h=>h.2.2,fun h=>⟨h1,h2,h⟩⟩
    rw[this];cases QY a.args b.args<;>cases QY a.qJ b.qJ<;>rfl
   have C:a≠b:=fun e=>h ⟨by rw[e],by rw[e],by rw[e],by rw[e],by rw[e]⟩
   have:(((((a.op !=b.op)||(!decide (a.qG=b.qG)))||((a.args.length:Int) !=(b.args.length:Int)))||((a.qJ.length:Int) !=(b.qJ.length:Int)))||((a.qQ.length:Int) !=(b.qQ.length:Int)))=true:=by
    refine Decidable.byContradiction fun B=>h ?_;simp only[Bool.not_eq_true,Jx,bne_eq_false_iff_eq,Bool.not_eq_false',decide_eq_true_eq]at B;exact⟨B.1.1.1.1,B.1.1.1.2,by omega,by omega,by omega⟩
   rw[this,Cq1,Zbf C]
def same_eq{F:Nat}(p:10000000000000000000<=F)(a b:Term)(h:U7 (.pr a))(l:(pre (.pr a)).length<=F):ZHU F a b=some (QY a b):=ZxW p _ a b h Vc l F l
def ZGj{p:Part}(h:Q6 p=true)(l:(ZP p).length<=BS):okS p:=by
 cases p with|ex e=>simpa[ZP,okS]using l|pr t=>simp only[ZP,Ks,G5]at l;exact⟨by omega,by omega,by omega⟩|cl c=>
   simp only[ZP,Ks,G5]at l
   have r:c.qV.length<=3/\∀m∈c.qV,m.names.length<=3:=by
    have⟨a,b,_⟩:=JY h;exact⟨a,b⟩
   exact⟨by unfold BS;omega,fun m q=>by have:=r.2 m q;unfold BS;omega,by omega,by omega⟩
def ZGm{p:Part}(h:(pre p).all Q6=true)(r:(pre p).length<=60):U7 p:=fun q l=>
 ZGj (Q2.1 h q l) (by have:=Wp q;have:=Zdc l;unfold BS;omega)
def ZGl:U7 (.pr (.mk 0 (⟨#[]⟩:Y) [] [] [])):=fun q h=>by
 rw[pre_eq]at h;rcases K2.1 h with rfl|h
 .exact⟨GH _,GH _,GH _⟩
 simp[ZP]at h
def ZGq{F:Nat}(h:10000000000000000000<=F):ZlF F (.mk 0 (⟨#[]⟩:Y) [] [] [])=some true:=by unfold ZlF;rw[same_eq h _ _ ZGl (by rw[Jr];simp[ZP];omega),ZlX];rfl
def ZpI{h:Type}[Inhabited h](F:Nat)(p:h×h->O Z)(l r:U h):O Z:=
 bif((l.length:Int) !=(r.length:Int)) then some false else loop F (fun v next=>bif decide (v<(l.length:Int)) then(Yl l v).bind fun x=>(Yl r v).bind fun y=>(p (x,y)).bind fun b=>(bif !b then some false else next (XD (v+1))) else some true) 0
def ZfI{q:Type}[Inhabited q]{F:Nat}(E:10000000000000000000<=F)(C:q×q->O Z)(l r:U q)(D:l.length<=BS)(A:∀x∈l,∀y,C (x,y)=some (QY x y)):ZpI F C l r=some (QY l r):=by
 unfold ZpI;by_cases p:l.length=r.length
 .rw[Za7 p,Cq0];refine(Ue l r p D (fin:=some true) (fun k B t=>?_) (fun t=>?_) E).trans ?_;.unfold BS at D;simp only[Yc B,Cq1,QN B,QN (show k<r.length by omega),Bq0,A _ (GE B),Zi9 (show k<4611686018427387904 by omega)];cases QY l[k] (r[k]'Vb)<;>rfl
  .simp
  cases QY l r<;>rfl
 have:((l.length:Int) !=(r.length:Int))=true:=by simpa using fun h=>p Vb
 rw[this,Cq1,Zbf fun h=>p (congrArg _ h)]
def Zyg{F:Nat}(y:10000000000000000000<=F)(l r:U Y)(q:l.length<=BS):ZlI F l r=some (QY l r):=by
 unfold ZlI;by_cases p:l.length=r.length
 .rw[Za7 p,Cq0];refine(Ue l r p q (fin:=some true) (fun k t x=>?_) (fun x=>?_) y).trans ?_
  .unfold BS at q;simp only[ZjS,Yc t,Cq1,QN t,QN (show k<r.length by omega),Bq0,Zi9 (show k<4611686018427387904 by omega)];by_cases e:l[k]=r[k]'Vb;.rw[XF.2 e];simp[e]
   rw[Zbf e];simp[e]
  .simp[ZjS]
  cases QY l r<;>rfl
 have:((l.length:Int) !=(r.length:Int))=true:=by simpa using fun h=>p Vb
 rw[this,Cq1,Zbf fun h=>p (congrArg _ h)]
def ZGs(a b:ZN):QY a b=(decide (a.qG=b.qG)&&QY a.names b.names):=by rw[Gt,Ba0,XF,XF,decide_eq_true_iff];cases a;cases b;simp only[ZN.mk.injEq]
def ZIn(a b:Zf):QY a b=((((a.op==b.op)&&(a.n==b.n))&&decide (a.qG=b.qG))&&QY a.qQ b.qQ):=by rw[Gt,Ba0,Ba0,Ba0,XF,XF,decide_eq_true_iff,beq_iff_eq,beq_iff_eq];cases a;cases b;simp only[Zf.mk.injEq,and_assoc]
def ZO5(a b:Za):QY a b=((((a.qX==b.qX)&&decide (a.qG=b.qG))&&QY a.qV b.qV)&&(QY a.qJ b.qJ&&QY a.qQ b.qQ)):=by rw[Gt];simp only[Ba0,XF,decide_eq_true_iff,beq_iff_eq];cases a;cases b;simp only[Za.mk.injEq,and_assoc]
def ZLH(a b:Term):QY a b=(((a.op==b.op)&&decide (a.qG=b.qG))&&(QY a.args b.args&&(QY a.qJ b.qJ&&QY a.qQ b.qQ))):=by rw[Gt];simp only[Ba0,XF,decide_eq_true_iff,beq_iff_eq];cases a;cases b;simp only[Term.mk.injEq,and_assoc]
def ZAY{F:Nat}(q:10000000000000000000<=F)(l r:U ZN)(B:l.length<=BS)(hn:∀m∈l,m.names.length<=BS):ZlK F l r=some (QY l r):=by
 refine(show ZlK F l r=ZpI F (fun p=>ZlJ F p.1 p.2) l r from rfl).trans (ZfI q _ l r B fun x A y=>?_);show ZlJ F x y=_;unfold ZlJ;rw[ZGs];cases h:decide (x.qG=y.qG) with|false=>rfl|true=>
   show((ZlI F x.names y.names).bind fun t=>some (true&&t))=_;rw[Zyg q _ _ (hn x A)];rfl
def ZIm{F:Nat}(t:10000000000000000000<=F):∀n a,U7 (.ex a)->ln (.ex a)<=n->∀Fr,n<=Fr->∀b,loop Fr (ZdF F) (a,b)=some (QY a b):=by
 intro n
 induction n with|zero=>intro a _ h;have:=Xb (.ex a);unfold ln at h;omega|succ n ih=>
   intro a p h Fr A b;obtain⟨m,rfl⟩:∃m,Fr=m+1:=⟨Fr-1,by omega⟩;rw[Z7];have r:=ZfI t (loop m (ZdF F)) a.qQ b.qQ (Zak p) fun x l y=>ih x (JD p (YP l)) (by have:=Yv (YP l);unfold ln at h ⊢;omega) m Vb y;show(bif(((a.op==b.op)&&(a.n==b.n))&&(decide (a.qG=b.qG))) then(ZpI F (loop m (ZdF F)) a.qQ b.qQ).bind fun q=>some q else some false)=_;rw[r,ZIn];cases (((a.op==b.op)&&(a.n==b.n))&&(decide (a.qG=b.qG)))<;>rfl
def ZO4{F:Nat}(A:10000000000000000000<=F)(h:Term×Term->O Z)(B:Nat)(t:∀k:Term,ln (.pr k)<B->U7 (.pr k)->∀y,h (k,y)=some (QY k y)):∀n a,U7 (.cl a)->ln (.cl a)<=n->n<=B->∀Fr,n<=Fr->∀b,loop Fr (ZdE F h) (a,b)=some (QY a b):=by
 intro n
 induction n with|zero=>intro a _ p;have:=Xb (.cl a);unfold ln at p;omega|succ n ih=>
   intro a r p L Fr K b;obtain⟨m,rfl⟩:∃m,Fr=m+1:=⟨Fr-1,by omega⟩;rw[Z7];have⟨o1,o2,o3,o4⟩:=Zak r;have G:=ZAY A a.qV b.qV o1 o2;have I:=ZfI A (loop m (ZdE F h)) a.qJ b.qJ o3 fun x l y=>ih x (JD r (Xn l)) (by have:=Yv (Xn l);unfold ln at p ⊢;omega) Vb m Vb y;have E:=ZfI A h a.qQ b.qQ o4 fun x l y=>t x (by have:=Yv (YU l);unfold ln at p ⊢;omega) (JD r (YU l)) y;show((gd ((a.qX==b.qX)&&(decide (a.qG=b.qG))) (ZlK F a.qV b.qV) default).bind fun D=>(bif(((a.qX==b.qX)&&(decide (a.qG=b.qG)))&&D) then(ZpI F (loop m (ZdE F h)) a.qJ b.qJ).bind fun C=>(bif C then(ZpI F h a.qQ b.qQ).bind fun q=>some q else some false) else some false))=_;rw[G,I,E,ZO5];cases ((a.qX==b.qX)&&(decide (a.qG=b.qG))) with|false=>rfl|true=>cases QY a.qV b.qV<;>cases QY a.qJ b.qJ<;>rfl
def ZLG{F:Nat}(p:10000000000000000000<=F):∀n a,U7 (.pr a)->ln (.pr a)<=n->n<=F->∀Fr,n<=Fr->∀b,loop Fr (ZgO F) (a,b)=some (QY a b):=by
 intro n
 induction n with|zero=>intro a _ r;have:=Xb (.pr a);unfold ln at r;omega|succ n ih=>
   intro a q r E Fr K b;obtain⟨m,rfl⟩:∃m,Fr=m+1:=⟨Fr-1,by omega⟩;rw[Z7];have⟨o1,o3,o4⟩:=Zak q;have l:∀k:Term,ln (.pr k)<ln (.pr a)->U7 (.pr k)->∀y,loop m (ZgO F) (k,y)=some (QY k y):=fun k B D y=>ih k D Vb Vb m Vb y;have I:=ZfI p (loop F (ZdF F)) a.args b.args o1 fun x h y=>ZIm p (ln (.ex x)) x (JD q (JE h)) Vc F (by have:=Yv (JE h);unfold ln at r ⊢;omega) y;have G:=ZfI p (loop F (ZdE F (loop m (ZgO F)))) a.qJ b.qJ o3 fun x h y=>ZO4 p _ (ln (.pr a)) l (ln (.cl x)) x (JD q (XR h)) Vc (by have:=Yv (XR h);unfold ln;omega) F (by have:=Yv (XR h);unfold ln at r ⊢;omega) y;have B:=ZfI p (loop m (ZgO F)) a.qQ b.qQ o4 fun x h y=>l x (by have:=Yv (XB h);unfold ln;omega) (JD q (XB h)) y;show(bif((a.op==b.op)&&(decide (a.qG=b.qG))) then(ZpI F (loop F (ZdF F)) a.args b.args).bind fun C=>(bif C then(ZpI F (loop F (ZdE F (loop m (ZgO F)))) a.qJ b.qJ).bind fun A=>(bif A then(ZpI F (loop m (ZgO F)) a.qQ b.qQ).bind fun t=>some t else some false) else some false) else some false)=_;rw[I,G,B,ZLH];cases ((a.op==b.op)&&(decide (a.qG=b.qG)))<;>cases QY a.args b.args<;>cases QY a.qJ b.qJ<;>rfl
def ZLr{F:Nat}(p:10000000000000000000<=F)(a b:Term)(h:U7 (.pr a))(l:ln (.pr a)<=F):ZHG F a b=some (QY a b):=ZLG p _ a h Vc l F l b
def Znj{t:Term}(h:XK AgW (.pr t)=true):U7 (.pr t):=ZGm (Xu h).1 (Xu h).2
def ZoY(l:U Y)(z:Y):z∈puts [] l []↔z∈l:=by
 rw[<-Zya,Zej];constructor
 .rintro(h|⟨q,r,rfl,_⟩);.cases h
  obtain⟨s,p,rfl⟩:=JT.1 r;exact p
 exact fun h=>.inr ⟨(z,[]),Gs (f:=fun s=>((s,[]):Evt)) h,rfl,fun q=>by cases q⟩
def ZCJ{F:Nat}(l:10000000000000000000<=F)(e:Zf)(h:(pre (.ex e)).length<=60):ZyS F e=some (puts [] (Qk e) []):=by unfold ZyS ZNW;have:=Zgk e;rw[Zuw l [] (by simp) 60 e [] h Vb (by simp only[GK];omega) F Vb];rfl
def Ki{t:Term}{x:Y}{e:Zf}(y:Lo (.pr t))(p:Lo (.ex e))(h:(Ql t x e).2=0):XK AgW (.pr t)=true/\Xt x=true/\XK AgW (.ex e)=true/\XK AgW (.pr (Ql t x e).1)=true/\Lo (.pr (Ql t x e).1)/\
 ((x∈Ze1 t/\bT (Zis x e) t=false/\(Ql t x e).1=ZoG x e t)\/(x∉Ze1 t/\(Ql t x e).1=t)):=by
 unfold Ql at h ⊢;cases h1:XK AgW (.pr t) with|false=>rw[h1]at h;cases h|true=>
   cases h2:Xt x with|false=>rw[h1,h2]at h;cases h|true=>
     cases r:XK AgW (.ex e) with|false=>rw[h1,h2,r]at h;cases h|true=>
       rw[h1,h2,r]at h;by_cases l:x∈Ze1 t
       .rw[decide_eq_true l]at h ⊢;cases q:bT (Zis x e) t with|true=>rw[q]at h;cases h|false=>
          rw[q]at h;cases hu:XK AgW (.pr (ZoG x e t)) with|false=>rw[hu]at h;cases h|true=>exact⟨rfl,rfl,rfl,hu,(Zjy h1 y r p q).lo,.inl ⟨l,rfl,rfl⟩⟩
       rw[decide_eq_false l];exact⟨rfl,rfl,rfl,h1,y,.inr ⟨l,rfl⟩⟩
def ZAw{t:Term}{x:Y}{e:Zf}:(Ql t x e).2≠0->(Ql t x e).1=.mk 0 (⟨#[]⟩:Y) [] [] []:=by
 unfold Ql;cases XK AgW (.pr t)&&Xt x&&XK AgW (.ex e) with
 | false=>exact fun _=>rfl
 | true=>
   cases decide (x∈Ze1 t) with
   | false=>exact fun h=>absurd rfl h
   | true=>
     cases bT (Zis x e) t with
     | true=>exact fun _=>rfl
     | false=>
       cases XK AgW (.pr (ZoG x e t)) with
       | false=>exact fun _=>rfl
       | true=>exact fun h=>absurd rfl h
def Zr4{g:Y->U Y}:∀(l:U Y),(∀z∈l,g z=[z])->l.flatMap g=l
 | [],_=>rfl
 | z::l,h=>by rw[Kf,h z (by simp),Zr4 l fun y p=>h y (Kd _ p)];rfl
def Zv4{t:Term}{x:Y}{e:Zf}(p:Lo (.pr t))(l:Lo (.ex e))(h:(Ql t x e).2=0):fv (.pr (Ql t x e).1) []=(fv (.pr t) []).flatMap fun z=>Qk (vl [(x,e)] z):=by
 have⟨h1,h2,h3,h4,h5,h6⟩:=Ki p l h;rcases h6 with⟨a,b,c⟩|⟨a,c⟩
 .rw[c];exact(Zjy h1 p h3 l b).fr
 rw[c,Zr4];intro z r;have hn:z≠x:=fun q=>a (by rw[<-q];exact ZkI.2 r);rw[KL,if_neg hn,Zeg]
def Zn2{env Q7:NM}:∀e,(pre (.ex e)).all Q6=true->(∀z∈Qk e,vl env z=vl Q7 z)->QK env e=QK Q7 e:=ZlU fun e r ih p=>by
 have h:Um e=true:=((YR _).1 r).1;by_cases h2:e.op=2
 .rw[Ky h h2,Ky h h2];exact p _ (by rw[Zgl h2 (ZbD h h2)];simp)
 rw[J8 h2,J8 h2];congr 1;exact Gh fun k q=>ih k q fun z l=>p z (by rw[Zdg h2];exact Q1.2 ⟨k,q,l⟩)
def Zjv{env Q7:NM}{l to:U Y}(t:l.length=to.length){z:Y}(h:z∉l->vl env z=vl Q7 z):vl (ext env l to) z=vl (ext Q7 l to) z:=by
 by_cases r:z∈l
 .have q:∀(e:NM),vl (ext e l to) z=match ZC ((l.zip to).map fun p=>(p.1,JR p.2)).reverse z with|some v=>v|none=>vl e z:=fun e=>by
   unfold vl ext;rw[Uq];cases ZC ((l.zip to).map fun p=>(p.1,JR p.2)).reverse z<;>rfl
  have x:(ZC ((l.zip to).map fun p=>(p.1,JR p.2)).reverse z).isSome=true:=by
   rw[Kt,List.map_reverse,List.mem_reverse,Gf];rw[<-zip_fst l to t]at r;exact r
  rw[q,q];cases y:ZC ((l.zip to).map fun p=>(p.1,JR p.2)).reverse z with|none=>rw[y]at x;cases x|some v=>rfl
 rw[ZhA t r,ZhA t r,h r]
def ET(s:MB)(env:NM)(t:Term)(r:MB×Term):Prop:=(pre (.pr t)).all Q6=true->∀Q7,(∀z∈fv (.pr t) [],vl env z=vl Q7 z)->Wt bdC s Q7 t=r
def EC'(s:MB)(env:NM)(c:Za)(r:MB×Za):Prop:=(pre (.cl c)).all Q6=true->∀Q7 L,TB L [c]->(∀z∈L,Q5 env z=Q5 Q7 z)->(∀z∈fv (.cl c) [],vl env z=vl Q7 z)->Wc bdC s Q7 c=r
def Zju{s:MB}{l:U Term}{q:MB×U Term}{env Q7:NM}(h:WsP (fun s k r=>ET s env k r) s l q)(y:∀a∈l,(pre (.pr a)).all Q6=true)(x:∀a∈l,∀z∈fv (.pr a) [],vl env z=vl Q7 z):Wts bdC s Q7 l=q:=by
 induction h with|nil=>rw[Za3]|@cons s a l r q h t ih=>
   rw[KH,h (y a (by simp)) Q7 (x a (by simp)),ih (fun b p=>y b (Kd _ p)) fun b p=>x b (Kd _ p)]
def ZvM{s:MB}{l:U Za}{q:MB×U Za}{env Q7:NM}{L:U Y}(h:WsP (fun s k r=>EC' s env k r) s l q)(y:∀a∈l,(pre (.cl a)).all Q6=true)(A:∀a∈l,TB L [a])(B:∀z∈L,Q5 env z=Q5 Q7 z)(x:∀a∈l,∀z∈fv (.cl a) [],vl env z=vl Q7 z):Wcs bdC s Q7 l=q:=by
 induction h with|nil=>rw[Zcb]|@cons s a l r q h t ih=>
   rw[ZbI,h (y a (by simp)) Q7 L (A a (by simp)) B (x a (by simp)),ih (fun b p=>y b (Kd _ p)) (fun b p=>A b (Kd _ p)) fun b p=>x b (Kd _ p)]
def Znf{env Q7:NM}{t:Term}(l:∀z∈fv (.pr t) [],vl env z=vl Q7 z):tx0 Q7 t.qG=tx0 env t.qG:=by
 unfold tx0;by_cases h:t.qG=E0;.rw[if_pos h,if_pos h]
 rw[if_neg h,if_neg h,Ui,Ui,l _ ((JJ t _).2 (.inl (.inl ⟨rfl,h⟩)))]
def Zmg{env Q7:NM}{t:Term}(q:(pre (.pr t)).all Q6=true)(p:∀z∈fv (.pr t) [],vl env z=vl Q7 z):t.args.map (QK Q7)=t.args.map (QK env):=
 Gh fun a l=>(Zn2 a (((YR _).1 q).2 _ (JE l)) fun z h=>p z ((JJ t _).2 (.inl (.inr ⟨a,l,h⟩)))).symm
def ZVL:(∀t s env,ET s env t (Wt bdC s env t))/\(∀c s env,EC' s env c (Wc bdC s env c)):=by
 refine ZEZ bdC ET EC' ?_ ?_ ?_ ?_
 .intro s env en t s1 to rd rk G E y S C x Q7 r;have P:Ka s (XQ t.qJ).length=(s1,to):=E;have I:(XQ t.qJ).length=to.length:=by have:=Wv (XQ t.qJ).length s;rw[P]at this;exact this.symm
  have A:bl t=XQ t.qJ:=by unfold bl;rw[G];rfl
  have D:inT bdC s Q7 t=(s1,ext Q7 (XQ t.qJ) to):=by
   unfold inT;rw[G];show((Ka s (XQ t.qJ).length).1,ext Q7 (XQ t.qJ) (Ka s (XQ t.qJ).length).2)=_;rw[P]
  have K:∀z,((∃c∈t.qJ,z∈fv (.cl c) [])\/∃k∈t.qQ,z∈fv (.pr k) [])->vl en z=vl (ext Q7 (XQ t.qJ) to) z:=fun z h=>by
   rw[y];exact Zjv I fun hn=>r z ((JJ t _).2 (.inr ⟨h,by rw[A];exact hn⟩))
  have F:∀z∈XQ t.qJ,Q5 en z=Q5 (ext Q7 (XQ t.qJ) to) z:=fun z h=>by rw[Ui,Ui,y,Zjv I fun hn=>absurd h hn]
  rw[ZiB G,D];dsimp only;rw[ZvM (L:=XQ t.qJ) S (fun a p=>((YR _).1 x).2 _ (XR p)) (fun a p=>(Zvm (l:=t.qJ) []).one p) F (fun a p z h=>K z (.inl ⟨a,p,h⟩)),Zju C (fun a p=>((YR _).1 x).2 _ (XB p)) (fun a p z h=>K z (.inr ⟨a,p,h⟩)),Znf r,Zmg x r]
 .intro s env t rk G C x Q7 r;have A:bl t=[]:=by unfold bl;rw[show(t.op==4)=false by simpa using G];rfl
  rw[ZeD G,Zju C (fun a p=>((YR _).1 x).2 _ (XB p)) (fun a p z h=>r z ((JJ t _).2 (.inr ⟨.inr ⟨a,p,h⟩,by rw[A];exact fun q=>by cases q⟩))),Znf r,Zmg x r]
 .intro s env c rd rk h2 S C x Q7 L B F r
  have Q:c.qV=[]:=by
   rcases(Zay (show K7 c=true from((YR _).1 x).1)).2 with h|h
   .omega
   exact h.2
  rw[ZbJ h2,ZvM (L:=L) S (fun a p=>((YR _).1 x).2 _ (Xn p)) (fun a p=>(B.sub (List.mem_singleton_self c) h2).one p) F (fun a p z h=>r z ((UX c _).2 (.inl ⟨a,p,h⟩))),Zju C (fun a p=>((YR _).1 x).2 _ (YU p)) (fun a p z h=>r z ((UX c _).2 (.inr ⟨⟨a,p,h⟩,by rw[Q];exact fun q=>by cases q⟩))),<-F _ (B.qG (List.mem_singleton_self c) h2)]
 intro s env en c s1 to rk h2 E y C x Q7 L B F r;have P:Ka s (ZA c.qV).length=(s1,to):=E;have I:(ZA c.qV).length=to.length:=by have:=Wv (ZA c.qV).length s;rw[P]at this;exact this.symm
 have D:inC bdC s Q7 c=(s1,ext Q7 (ZA c.qV) to):=by
  unfold inC;rw[show(c.qX==2)=false by simpa using h2];show((Ka s (ZA c.qV).length).1,ext Q7 (ZA c.qV) (Ka s (ZA c.qV).length).2)=_;rw[P]
 have V:c.qV.map (Zaa Q7 (ext Q7 (ZA c.qV) to))=c.qV.map (Zaa env en):=Gh fun m T=>by
  unfold Zaa;rw[F _ (B.j (E0,[c]) Gg c (List.mem_singleton_self c) m T)];congr 1;refine Gh fun n hn=>?_;rw[Ui,Ui,y,Zjv I fun q=>absurd (Q1.2 ⟨m,T,hn⟩) q]
 rw[ZeE h2,D];dsimp only;rw[Zju C (fun a p=>((YR _).1 x).2 _ (YU p)) (fun a p z h=>by rw[y];exact Zjv I fun hn=>r z ((UX c _).2 (.inr ⟨⟨a,p,h⟩,hn⟩))),V]
def ZAx{t:Term}{x:Y}{e:Zf}(y:Lo (.pr t))(p:Lo (.ex e))(h:(Ql t x e).2=0){σ comp:NM}(s2:MB)(r:∀z∈fv (.pr t) [],QK σ (vl [(x,e)] z)=vl comp z):Wt bdC s2 σ (Ql t x e).1=Wt bdC s2 comp t:=by
 have⟨h1,h2,h3,h4,h5,h6⟩:=Ki y p h;rcases h6 with⟨a,b,c⟩|⟨a,c⟩
 .rw[c];exact(Zjy h1 y h3 p b).co σ comp s2 r
 rw[c];refine ZVL.1 t s2 comp (Xu h1).1 σ fun z l=>?_;have hn:z≠x:=fun q=>a (by rw[<-q];exact ZkI.2 l);have:=r z l;rw[KL,if_neg hn,Zae]at this;exact this.symm
def Zy8{t:Term}{x:Y}{e:Zf}(q:Lo (.pr t))(l:Lo (.ex e))(h:(Ql t x e).2=0)(s2:MB):Wt bdC s2 [] (Ql t x e).1=Wt bdC s2 [(x,e)] t:=by
 have r:=(Ki q l h).2.2.1;refine ZAx q l h s2 fun z y=>?_;rw[KL];by_cases p:z=x;.rw[if_pos p];exact ZuP Zqg _ e (Xu r).1 Vc
 rw[if_neg p,Zae];rfl
def ZzY{x y:Y}{e f:Zf}(z:Y):vl [(x,e),(y,f)] z=if z=x then e else if z=y then f else JR z:=by
 unfold vl;rw[Zbs];by_cases h:z=x;.rw[if_pos h,if_pos h.symm];rfl
 rw[if_neg h,if_neg fun q=>h q.symm];exact KL y f z
def ZsI{t:Term}{x y:Y}{e f:Zf}(p:Lo (.pr t))(h:Lo (.ex e))(l:Lo (.ex f))(h1:(Ql t x e).2=0)(h2:(Ql (Ql t x e).1 y f).2=0){comp:NM}(r:∀z,QK [(y,f)] (vl [(x,e)] z)=vl comp z):
 ZpS (Ql (Ql t x e).1 y f).1=(Wt bdC (ZtV ((fv (.pr t) []).flatMap fun z=>Qk (vl comp z)) []) comp t).2:=by
 have⟨a1,_,a3,_,a5,_⟩:=Ki p h h1;unfold ZpS;rw[ZLj,Zv4 a5 l h2,Zv4 p h h1,List.flatMap_assoc,Zy8 a5 l h2,ZAx p h h1 _ fun z _=>r z]
 have:((fv (.pr t) []).flatMap fun z=>(Qk (vl [(x,e)] z)).flatMap fun w=>Qk (vl [(y,f)] w))=(fv (.pr t) []).flatMap fun z=>Qk (vl comp z):=UH fun z _=>by
  rw[<-r z,KL];by_cases q:z=x;.rw[if_pos q,Zwa _ e (Xu a3).1]
  rw[if_neg q,Zae,Zeg,Kf,GQ,Ge]
 rw[this]
def ZFP{t:Term}{x y:Y}{e f:Zf}(p:x≠y)(r:x∉Qk f)(B:Lo (.pr t))(A:Lo (.ex e))(h:Lo (.ex f))(ZXV:Lo (.ex (QK [(y,f)] e)))(h1:(Ql t x e).2=0)(h2:(Ql (Ql t x e).1 y f).2=0)(E:(Ql t y f).2=0)(G:(Ql (Ql t y f).1 x (QK [(y,f)] e)).2=0):
 ZpS (Ql (Ql t x e).1 y f).1=ZpS (Ql (Ql t y f).1 x (QK [(y,f)] e)).1:=by
 have D:=(Xu (Ki B h E).2.2.1).1;rw[ZsI B A h h1 h2 (comp:=[(x,QK [(y,f)] e),(y,f)]) fun z=>?_,ZsI B h ZXV E G (comp:=[(x,QK [(y,f)] e),(y,f)]) fun z=>?_]
 .rw[KL,ZzY];by_cases C:z=y;.subst C;rw[if_pos rfl,if_neg fun q=>p q.symm];rw[Zn2 (Q7:=[]) f D fun m F=>by rw[KL,if_neg fun q=>r (by rw[<-q];exact F)];rfl];exact ZuP Zqg _ f D Vc
  rw[if_neg C,Zae,KL]
 rw[KL,ZzY];by_cases l:z=x;.rw[if_pos l,if_pos l]
 rw[if_neg l,if_neg l,Zae,KL]
def Qm(p:Part):U7 p↔okS p/\∀k∈ZP p,U7 k:=by
 refine⟨fun h=>⟨h p (Xl p),fun k r q l=>h q (Xi r l)⟩,fun⟨h1,h2⟩ q l=>?_⟩;rw[pre_eq]at l;rcases K2.1 l with rfl|l
 .exact h1
 have⟨k,r,l⟩:=Q1.1 l;exact h2 k r q l
def Sn(p q:Part):Prop:=U7 q/\ln q=ln p
def NmV(env:NM):Prop:=∀z e,ZC env z=some e->∃y,e=JR y
def NmV.ext{env:NM}(h:NmV env){l to:U Y}(p:l.length=to.length):NmV (ext env l to):=fun z e he=>by
 rcases ext_get p env z with⟨_,y,_,g⟩|⟨_,g⟩
 .rw[g]at he;cases he;exact⟨y,rfl⟩
 rw[g]at he;exact h z e he
def ZE2(y:Y):U7 (.ex (JR y)):=(Qm _).2 ⟨GH _,fun k h=>by cases h⟩
def ZPM{env:NM}(h:NmV env):∀e,(pre (.ex e)).all Q6=true->U7 (.ex e)->Sn (.ex e) (.ex (QK env e)):=ZlU fun e B ih t=>by
 have p:Um e=true:=((YR _).1 B).1;by_cases h2:e.op=2
 .rw[Ky p h2];have hn:=(ZpF (ZbD p h2)).1;unfold vl;cases C:ZC env e.qG with|none=>exact⟨ZE2 _,by rw[hn];exact(ZpF rfl).1⟩|some v=>
    obtain⟨y,rfl⟩:=h _ _ C;exact⟨ZE2 _,by rw[hn];exact(ZpF rfl).1⟩
 rw[J8 h2];have r:∀k∈e.qQ,Sn (.ex k) (.ex (QK env k)):=fun k r=>ih k r (((Qm _).1 t).2 _ (YP r))
 refine⟨(Qm _).2 ⟨?_,fun k q=>?_⟩,?_⟩
 .have:=((Qm _).1 t).1;show(e.qQ.map _).length<=_;rw[G5];exact this
 .simp only[ZP,Gf,JT]at q;obtain⟨a,D,rfl⟩:=q;exact(r a D).1
 rw[ZkN,ZkN (.ex e)];simp only[ZP,Gf];exact congrArg (fun l=>List.sum l+1) (Gh fun x A=>(r x A).2)
def ST'(s:MB)(env:NM)(t:Term)(r:MB×Term):Prop:=(pre (.pr t)).all Q6=true->U7 (.pr t)->NmV env->Sn (.pr t) (.pr r.2)
def SC'(s:MB)(env:NM)(c:Za)(r:MB×Za):Prop:=(pre (.cl c)).all Q6=true->U7 (.cl c)->NmV env->Sn (.cl c) (.cl r.2)
def ZFU{env:NM}{s:MB}{l:U Term}{q:MB×U Term}(h:WsP (fun s k r=>ST' s env k r) s l q)(p:∀a∈l,(pre (.pr a)).all Q6=true/\U7 (.pr a))(y:NmV env):Al (fun a b=>Sn (.pr a) (.pr b)) l q.2:=by induction h with|nil=>exact .nil|cons h t ih=>exact .cons (h (p _ (by simp)).1 (p _ (by simp)).2 y) (ih fun a x=>p a (Kd _ x))
def ZQU{env:NM}{s:MB}{l:U Za}{q:MB×U Za}(h:WsP (fun s k r=>SC' s env k r) s l q)(p:∀a∈l,(pre (.cl a)).all Q6=true/\U7 (.cl a))(y:NmV env):Al (fun a b=>Sn (.cl a) (.cl b)) l q.2:=by induction h with|nil=>exact .nil|cons h t ih=>exact .cons (h (p _ (by simp)).1 (p _ (by simp)).2 y) (ih fun a x=>p a (Kd _ x))
def ZJe{env:NM}{t:Term}{B:Y}{ds:U Za}{ks:U Term}(C:(pre (.pr t)).all Q6=true)(A:U7 (.pr t))(D:NmV env)(q:Al (fun a b=>Sn (.cl a) (.cl b)) t.qJ ds)(p:Al (fun a b=>Sn (.pr a) (.pr b)) t.qQ ks):Sn (.pr t) (.pr (.mk t.op B (t.args.map (QK env)) ds ks)):=by
 have l:∀a∈t.args,Sn (.ex a) (.ex (QK env a)):=fun a l=>ZPM D a (((YR _).1 C).2 _ (JE l)) (((Qm _).1 A).2 _ (JE l));have⟨o1,o2,o3⟩:=((Qm _).1 A).1;refine⟨(Qm _).2 ⟨⟨by show(t.args.map _).length<=_;rw[G5];exact o1,by show ds.length<=_;rw[q.len];exact o2,by show ks.length<=_;rw[p.len];exact o3⟩,fun k h=>?_⟩,?_⟩
 .simp only[ZP,Q3,JT]at h;rcases h with(⟨_,⟨a,ha',rfl⟩,rfl⟩|⟨d,hd,rfl⟩) | ⟨d,hd,rfl⟩
  .exact(l a ha').1
  .have⟨_,_,r⟩:=q.right d hd;exact r.1
  have⟨_,_,r⟩:=p.right d hd;exact r.1
 rw[Znv,Znv t];show((t.args.map (QK env)).map fun a=>ln (.ex a)).sum+(ds.map fun a=>ln (.cl a)).sum+(ks.map fun a=>ln (.pr a)).sum+1=_;rw[Gf,q.map (f:=fun a=>ln (.cl a)) fun x y r=>r.2,p.map (f:=fun a=>ln (.pr a)) fun x y r=>r.2];have:t.args.map ((fun a=>ln (.ex a))∘QK env)=t.args.map fun a=>ln (.ex a):=Gh fun a h=>(l a h).2;rw[this]
def ZJf{c:Za}{D:Int}{B:Y}{l:U ZN}{ds:U Za}{ks:U Term}(A:l.length<=BS/\∀m∈l,m.names.length<=BS)(C:U7 (.cl c))(t:Al (fun a b=>Sn (.cl a) (.cl b)) c.qJ ds)(q:Al (fun a b=>Sn (.pr a) (.pr b)) c.qQ ks):Sn (.cl c) (.cl (.mk D B l ds ks)):=by
 have⟨o1,o2,o3,o4⟩:=((Qm _).1 C).1;refine⟨(Qm _).2 ⟨⟨A.1,A.2,by show ds.length<=_;rw[t.len];exact o3,by show ks.length<=_;rw[q.len];exact o4⟩,fun k h=>?_⟩,?_⟩
 .simp only[ZP,Q3,JT]at h;rcases h with⟨d,p,rfl⟩|⟨d,p,rfl⟩
  .have⟨_,_,r⟩:=t.right d p;exact r.1
  have⟨_,_,r⟩:=q.right d p;exact r.1
 rw[ZiQ,ZiQ c];show(ds.map fun a=>ln (.cl a)).sum+(ks.map fun a=>ln (.pr a)).sum+1=_;rw[t.map (f:=fun a=>ln (.cl a)) fun x y r=>r.2,q.map (f:=fun a=>ln (.pr a)) fun x y r=>r.2]
def ZEg:(∀t s env,ST' s env t (Wt bdC s env t))/\(∀c s env,SC' s env c (Wc bdC s env c)):=by
 refine ZEZ bdC ST' SC' ?_ ?_ ?_ ?_
 .intro s env en t s1 to rd rk L B A F y q p r;have G:Ka s (XQ t.qJ).length=(s1,to):=B;have E:(XQ t.qJ).length=to.length:=by have:=Wv (XQ t.qJ).length s;rw[G]at this;exact this.symm
  have x:NmV en:=by rw[A];exact r.ext E
  exact ZJe q p r (ZQU F (fun a l=>⟨((YR _).1 q).2 _ (XR l),((Qm _).1 p).2 _ (XR l)⟩) x) (ZFU y (fun a l=>⟨((YR _).1 q).2 _ (XB l),((Qm _).1 p).2 _ (XB l)⟩) x)
 .intro s env t rk L y q p r;refine ZJe q p r ?_ (ZFU y (fun a l=>⟨((YR _).1 q).2 _ (XB l),((Qm _).1 p).2 _ (XB l)⟩) r);rw[Zd7 ((YR _).1 q).1 L];exact .nil
 .intro s env c rd rk h2 F y q p r;exact ZJf ⟨GH _,fun m D=>by cases D⟩ p (ZQU F (fun a l=>⟨((YR _).1 q).2 _ (Xn l),((Qm _).1 p).2 _ (Xn l)⟩) r) (ZFU y (fun a l=>⟨((YR _).1 q).2 _ (YU l),((Qm _).1 p).2 _ (YU l)⟩) r)
 intro s env en c s1 to rk h2 B A y q p r;have G:Ka s (ZA c.qV).length=(s1,to):=B;have E:(ZA c.qV).length=to.length:=by have:=Wv (ZA c.qV).length s;rw[G]at this;exact this.symm
 have x:NmV en:=by rw[A];exact r.ext E
 have K:K7 c=true:=((YR _).1 q).1
 have P:c.qX=1:=by
  rcases(Zay K).2 with h|h
  .exact h
  exact absurd h.1 h2
 have⟨o1,o2,_,_⟩:=((Qm _).1 p).1;refine ZJf ⟨by rw[G5];exact o1,fun m D=>?_⟩ p ?_ (ZFU y (fun a l=>⟨((YR _).1 q).2 _ (YU l),((Qm _).1 p).2 _ (YU l)⟩) x);.obtain⟨I,C,rfl⟩:=JT.1 D;show(I.names.map _).length<=_;rw[G5];exact o2 I C
 rw[(Zd9 K P).2];exact .nil
def ZII{t:Term}(h:XK AgW (.pr t)=true):U7 (.pr (ZpS t))/\ln (.pr (ZpS t))=ln (.pr t):=
 ZEg.1 t (tk0 t) [] (Xu h).1 (Znj h) fun z e he=>by cases he
def ZIS{F:Nat}(l:10000000000000000000<=F)(a b:Term)(r:Lo (.pr a))(t:Lo (.pr b))(q:ln (.pr a)<=F)(p:ln (.pr b)<=F):ZuI F a b=some (bif XK AgW (.pr a)&&XK AgW (.pr b) then(QY (ZpS a) (ZpS b),(0:Int)) else(false,2)):=by
 unfold ZuI;rw[ZjX l a r q,ZjX l b t p,Bq0];cases h:XK AgW (.pr a) with|false=>rfl|true=>
   cases h2:XK AgW (.pr b) with|false=>rfl|true=>
     have⟨a1,a2⟩:=Xu h;have⟨b1,b2⟩:=Xu h2;have⟨c1,c2⟩:=ZII h;simp only[Cq1,Bool.and_self];rw[ZsH l a a1 a2,ZsH l b b1 b2,Bq0,Bq0,ZLr l _ _ c1 Vb];rfl
def ZyN{F:Nat}(h:10<=F)(x:Y):ZgY F ⟨[],[]⟩ x=some (⟨0,0,(⟨#[]⟩:Y),[]⟩,false):=by obtain⟨G,rfl⟩:∃G,F=G+1:=⟨F-1,by omega⟩;unfold ZgY;rw[Z7];rfl
def ZC7{F:Nat}(h:10<=F)(y:Y)(f:Zf)(x:Y):ZgY F ⟨[y],[f]⟩ x=some (bif decide (y=x) then(f,true) else(⟨0,0,(⟨#[]⟩:Y),[]⟩,false)):=by obtain⟨G,rfl⟩:∃G,F=G+2:=⟨F-2,by omega⟩;unfold ZgY;rw[Z7];show(bif decide (y=x) then some (f,true) else loop (G+1) (ZpB ⟨[y],[f]⟩ x) (-1))=_;cases decide (y=x) with|true=>rfl|false=>rw[Cq0,Z7];rfl
def Zsp{F:Nat}(E:10000000000000000000<=F)(c:Change)(e:Zf)(q:Change×Zf->O Zf)(g:Zf->Zf)(A:e.qQ.length<=1000)(h:∀k∈e.qQ,q (c,k)=some (g k)):Zbb F c e q ()=some (.mk e.op e.n e.qG (e.qQ.map g)):=by
 unfold Zbb;have:=Yw (body:=Zll c e q) (fun(k:Nat)(l:U Zf)=>((k:Int),l)) e.qQ (fun rest l=>l.length+rest.length<=1000) (fun rest l=>some (Zf.mk e.op e.n e.qG (l++rest.map g))) (F:=F) ?_ ?_ Vb [] (by simpa using A);.exact this
 .intro l p _;simp only[Zll,Yi,Cq0,List.map_nil,Ge]
 intro k x rest l p t B C y r;simp only[Kx]at y;have D:app 56 l [g x]=some (l++[g x]):=Wy (by simp;omega) Vb;simp only[Zll,Yc B,Cq1,C,Bq0,h x t,D];rw[Ja Vb,r _ (by simp;omega),G9];rfl
def ZEc{F:Nat}(y:10000000000000000000<=F):∀n e,ln (.ex e)<=n->n<=60->∀Fr,n<=Fr->loop Fr (KZ F) (⟨[],[]⟩,e)=some e:=by
 intro n
 induction n with|zero=>intro e h;have:=Xb (.ex e);unfold ln at h;omega|succ n ih=>
   intro e hn A Fr x;obtain⟨G,rfl⟩:∃G,Fr=G+1:=⟨Fr-1,by omega⟩;rw[Z7];have r:∀k∈e.qQ,loop G (KZ F) (⟨[],[]⟩,k)=some (id k):=fun k r=>ih k (by have:=Yv (YP r);unfold ln at hn ⊢;omega) Vb G Vb;have q:e.qQ.length<=1000:=by have:=Wp (.ex e);simp only[ZP,G5]at this;unfold ln at hn;omega
   have t:=Zsp y ⟨[],[]⟩ e (loop G (KZ F)) id q r;rw[List.map_id]at t;show(bif(e.op==2) then(ZgY F ⟨[],[]⟩ e.qG).bind fun l=>(bif l.2 then(ZlR (loop G (KZ F)) l.1).bind fun p=>some p else(Zbb F ⟨[],[]⟩ e (loop G (KZ F))) ()) else(Zbb F ⟨[],[]⟩ e (loop G (KZ F))) ())=_;rw[ZyN Vb,Bq0,Cq0,t];cases e.op==2<;>cases e<;>rfl
def ZGb{F:Nat}(E:10000000000000000000<=F)(y:Y)(f:Zf)(I:ln (.ex f)<=60):∀n e,ln (.ex e)<=n->n<=60->(pre (.ex e)).all Q6=true->∀Fr,n+60<=Fr->loop Fr (KZ F) (⟨[y],[f]⟩,e)=some (QK [(y,f)] e):=by
 intro n
 induction n with|zero=>intro e h;have:=Xb (.ex e);unfold ln at h;omega|succ n ih=>
   intro e hn P D Fr L;obtain⟨G,rfl⟩:∃G,Fr=G+1:=⟨Fr-1,by omega⟩;rw[Z7];have p:Um e=true:=((YR _).1 D).1;have A:∀k∈e.qQ,loop G (KZ F) (⟨[y],[f]⟩,k)=some (QK [(y,f)] k):=fun k A=>ih k (by have:=Yv (YP A);unfold ln at hn ⊢;omega) Vb (((YR _).1 D).2 _ (YP A)) G Vb;have C:e.qQ.length<=1000:=by have:=Wp (.ex e);simp only[ZP,G5]at this;unfold ln at hn;omega
   have Q:=Zsp E ⟨[y],[f]⟩ e (loop G (KZ F)) _ C A;have K:=ZEc E 60 f I Vc G Vb;show(bif(e.op==2) then(ZgY F ⟨[y],[f]⟩ e.qG).bind fun t=>(bif t.2 then(ZlR (loop G (KZ F)) t.1).bind fun l=>some l else(Zbb F ⟨[y],[f]⟩ e (loop G (KZ F))) ()) else(Zbb F ⟨[y],[f]⟩ e (loop G (KZ F))) ())=_;rw[ZC7 Vb,Bq0,Q];by_cases h2:e.op=2
   .rw[Ky p h2,KL,h2];by_cases x:e.qG=y;.rw[if_pos x,decide_eq_true x.symm];show(bif true then(ZlR (loop G (KZ F)) f).bind fun l=>some l else _)=_;unfold ZlR;rw[K];rfl
    rw[if_neg x,decide_eq_false fun q=>x q.symm];have B:=ZpD p h2;have r:=ZbD p h2;rw[r];show some (Zf.mk 2 e.n e.qG [])=some (JR e.qG);rw[<-B];have⟨op,n',tx,ks⟩:=e;simp only at h2 r;rw[h2,r]
   rw[J8 h2,show(e.op==2)=false by simpa using h2];rfl
def Zyb{F:Nat}(l:10000000000000000000<=F){e f:Zf}(y:Y)(he:XK AgW (.ex e)=true)(h:XK AgW (.ex f)=true):ZyR F e y f=some (QK [(y,f)] e):=by unfold ZyR ZNT;rw[ZGb l y f (Xu h).2 60 e (Xu he).2 Vc (Xu he).1 F Vb];rfl
def ZAD{F:Nat}(r:10000000000000000000<=F){t:Term}{x:Y}{e:Zf}(A:Lo (.pr t))(l:Lo (.ex e)):ZlF F (Ql t x e).1=some ((Ql t x e).2 !=0):=by
 by_cases h:(Ql t x e).2=0
 .have⟨_,_,_,h4,_,_⟩:=Ki A l h
  have p:(Ql t x e).1≠.mk 0 (⟨#[]⟩:Y) [] [] []:=fun q=>by
   have:=(Xu h4).1;rw[q]at this;have y:ZeM (.mk 0 (⟨#[]⟩:Y) [] [] [])=true:=((YR _).1 this).1;have B:ZeM (.mk 0 (⟨#[]⟩:Y) [] [] [])=false:=rfl;rw[B]at y;cases y
  unfold ZlF;rw[same_eq r _ _ (Znj h4) (by have:=(Xu h4).2;omega),Zbf p,h];rfl
 rw[ZAw h,ZGq r,show((Ql t x e).2 !=0)=true by simpa using h]
def ZON{y:Y}{e f:Zf}(q:(pre (.ex e)).all Q6=true)(r:Lo (.ex e))(t:ln (.ex f)<=60)(l:Lo (.ex f)):ln (.ex (QK [(y,f)] e))<=60*ln (.ex e)/\Lo (.ex (QK [(y,f)] e)):=
 EnL.exp (fun z p=>by rw[KL];by_cases h:z=y;rw[if_pos h];exact⟨t,l⟩;rw[if_neg h];exact Zvs p) e q r
def Zmt{F:Nat}(A:10000000000000000000<=F)(t:Term)(p:Two)(G:Lo (.pr t))(l:Lo (.ex p.e))(h:Lo (.ex p.f))(V:(pre (.pr t)).length<=F)(I:(pre (.ex p.e)).length<=F)(C:(pre (.ex p.f)).length<=F):f9L F t p=some true:=by
 have⟨x,y,e,f⟩:=p;simp only at l h I C;unfold f9L;simp only;cases hc:((decide ((x.size:Int)>30))||(decide ((y.size:Int)>30)))||(decide (x=y)) with|true=>rfl|false=>
   rw[ZsE A e l I];cases he:XK AgW (.ex e) with|false=>rfl|true=>
     rw[ZsE A f h C];cases hf:XK AgW (.ex f) with|false=>rfl|true=>
       rw[Jx,Jx,decide_eq_false_iff_not,decide_eq_false_iff_not,decide_eq_false_iff_not]at hc;have⟨⟨hx,hy⟩,hxy⟩:=hc;have T:x.size<=BB:=by unfold BB;omega
       have S:y.size<=BB:=by unfold BB;omega
       have⟨e1,e2⟩:=Xu he;have⟨f1,f2⟩:=Xu hf;show((ZyS F f).bind fun x8=>(Zjj F x8 x).bind fun x14=>(bif x14 then(ZmY).bind fun x15=>some x15 else(Zcy F t x e).bind fun K=>(Zcy F t y f).bind fun r=>(bif((K.2 !=0)||(r.2 !=0)) then(ZlF F K.1).bind fun D=>(gd (D==(K.2 !=0)) (ZlF F r.1) default).bind fun Q=>(gd ((D==(K.2 !=0))&&(Q==(r.2 !=0))) (ZmY) default).bind fun x48=>some (((D==(K.2 !=0))&&(Q==(r.2 !=0)))&&x48) else(Zcy F K.1 y f).bind fun P=>(ZyR F e y f).bind fun x64=>(Zcy F r.1 x x64).bind fun L=>(bif((P.2 !=0)||(L.2 !=0)) then(ZmY).bind fun x85=>some x85 else(ZuI F P.1 L.1).bind fun B=>(gd (B.1&&(B.2==0)) (ZmY) default).bind fun x87=>some ((B.1&&(B.2==0))&&x87)))))=some true;have hpl:=Zks [] (Qk f) [];have hnl:=Zgk f;simp only[GK]at hpl;rw[ZCJ A f f2,Bq0,has_eq F _ x Vb Vb,Bq0];by_cases E:x∈puts [] (Qk f) [];.rw[decide_eq_true E];rfl
       rw[decide_eq_false E,Cq0];have ZXG:x∉Qk f:=fun q=>E ((ZoY _ _).2 q);rw[Zv3 A t x e G T l V I,Bq0,Zv3 A t y f G S h V C,Bq0];have nA:=ZAD A (x:=x) G l;have nB:=ZAD A (x:=y) G h;by_cases W:(Ql t x e).2=0
       .by_cases hB:(Ql t y f).2=0
        .have⟨_,_,_,a4,a5,_⟩:=Ki G l W;have⟨_,_,_,b4,b5,_⟩:=Ki G h hB;have la:=(Xu a4).2;have lb:=(Xu b4).2;have⟨q1,q2⟩:=ZON (y:=y) e1 l f2 h;have hFq:(pre (.ex (QK [(y,f)] e))).length<=F:=by unfold ln at q1;omega
         rw[W,hB,show(((0:Int) !=0)||((0:Int) !=0))=false from rfl,Cq0,Zv3 A _ y f a5 S h Vb C,Bq0,Zyb A y he hf,Bq0,Zv3 A _ x _ b5 T q2 Vb hFq,Bq0];by_cases hC:(Ql (Ql t x e).1 y f).2=0
         .by_cases X:(Ql (Ql t y f).1 x (QK [(y,f)] e)).2=0;.have⟨_,_,_,c4,c5,_⟩:=Ki a5 h hC;have⟨_,_,_,d4,d5,_⟩:=Ki b5 q2 X;have lc:=(Xu c4).2;have ld:=(Xu d4).2;rw[hC,X,show(((0:Int) !=0)||((0:Int) !=0))=false from rfl,Cq0,ZIS A _ _ c5 d5 (by unfold ln;omega) (by unfold ln;omega),c4,d4,ZFP hxy ZXG G l h q2 W hC hB X,ZlX];rfl
          rw[show((Ql (Ql t y f).1 x (QK [(y,f)] e)).2 !=0)=true by simpa using X,Bool.or_true];rfl
         rw[show((Ql (Ql t x e).1 y f).2 !=0)=true by simpa using hC];rfl
        rw[nA,nB,Bq0,show((Ql t y f).2 !=0)=true by simpa using hB,W];rfl
       rw[nA,nB,Bq0,show((Ql t x e).2 !=0)=true by simpa using W];cases ((Ql t y f).2 !=0)<;>rfl
def Zmu(t:Term)(p:Two)(l:Lo (.pr t))(h:Lo (.ex p.e)/\Lo (.ex p.f)):f9L (Zld t p.e+(pre (.ex p.f)).length) t p=some true:=Zmt (by unfold Zld;omega) t p l h.1 h.2 (by unfold Zld;omega) (by unfold Zld;omega) Vb
end
section
open Go.ChangeShapes Go.WideShapes Go.ChangeAt Go.RowKit Go.ZU Go.Lf
def ZW8:Uw XX.P Zt Zhp 33:=ZQ1
def rv9:Uw XX.P ZH (fun s=>s.size<=maxLen) 9:=.str Tryz.underlying9 Kq0
def ZQ6:Uw XX.P Zi Zms 36:=ZQ5
def Z0w:Two->Prop:=fun x=>(fun s=>s.size<=maxLen) x.x/\(fun s=>s.size<=maxLen) x.y/\Zms x.e/\Zms x.f
def ZW7:Uw XX.P ZW9 Z0w 59:=⟨by kernel_rfl,fun a=>by
 obtain⟨l,rfl,D,h⟩:=a.Znh Tryz.underlying59
 match l,D,h with
 | [x0,x1,x2,x3],_,h=>
   obtain⟨p0,t,L,B,S⟩:=rv9.2 (h 0 x0 _ rfl rfl);obtain⟨p1,r,K,A,Q⟩:=rv9.2 (h 1 x1 _ rfl rfl);obtain⟨p2,q,I,y,F⟩:=ZQ6.2 (h 2 x2 _ rfl rfl);obtain⟨C,p,G,x,E⟩:=ZQ6.2 (h 3 x3 _ rfl rfl);exact⟨(p2,C),⟨t,r,q,p⟩,by simp only[Kf,GQ,L,K,I,G];rfl,⟨B,A,y,x⟩,fun V=>⟨Yd.1 (F V),Yd.1 (E V)⟩⟩⟩
def Zng:(59::ZJb).all (Zpg XX.P (59::ZJb))=true:=Kq0
def Zyo(H:Type)(enc:J×N->H)(W:V4){A y:N}{I G:DataW H}{p0 p1:U MemPlace}
 (C:∃cs,A=.agg cs)
 (D:DataW.Trod enc Tryz.prog W 0 (fun _=>true) true 33 A I p0)
 (B:∃cs,y=.agg cs)
 (h1:DataW.Trod enc Tryz.prog W 0 (fun _=>true) true 59 y G p1):
 Calls Tryz.prog 9 #[A,y] W fun e W'=>e=.returned (.bool true)/\Below W.heap.size W W':=by
 obtain⟨g0,D⟩:=D;obtain⟨c0,rfl⟩:=C;obtain⟨g1,h1⟩:=h1;obtain⟨c1,rfl⟩:=B
 obtain⟨ρ,l,E,r1,r2,r3,r4⟩:=ZIz (P:=Tryz.prog) (W:=W) [(33,(Value.agg c0).cells.toList,I),(59,(Value.agg c1).cells.toList,G)] (fun x T=>by
  simp only[K2,KB,or_false]at T;rcases T with rfl|rfl
  ·exact ZUK Zng g0 33 _ I p0 (by decide) D
  ·exact ZUK Zng g1 59 _ G p1 (by decide) h1)
 match E,r3,r4 with
 | [e0,h],_,r4=>
   obtain⟨S,a0⟩:=r4 0 e0 _ rfl rfl;obtain⟨m0,K,z0,w0,q⟩:=ZW8.2 a0;rw[z0]at S;have L0:=ZGt (q l.size) w0;replace q:=fun V=>Xa.1 (q V);obtain⟨Z0G,Z0F,Z0E⟩:=q l.size;obtain⟨Q,a1⟩:=r4 1 h _ rfl rfl;obtain⟨m1,t,z1,L,F1⟩:=ZW7.2 a1;rw[z1]at Q;obtain⟨ZV0,ZVZ⟩:=F1 l.size;have L1:=And.intro (Zt7 (Yd.2 ZV0) L.2.2.1) (Zt7 (Yd.2 ZVZ) L.2.2.2);have hj:Y7 XX _ _:=ZUE (F:=(Zld K t.e+(pre (.ex t.f)).length)) (r:=true) Z0G Z0F Z0E ZV0 ZVZ (Zmu K t L0 L1) l.size
   have hc:=Zm3 (hj ρ #[.agg c0,.agg c1] W Vc r1 ⟨rfl,fun i v v' h p=>by
    match i with
    | 0=>
      simp at h p;subst h p;exact ZvN S
    | 1=>
      simp at h p;subst h p;exact ZvN Q
    | i+2=>simp at h⟩)
   refine hc.mono fun e w' ⟨ρ',he,_,st⟩=>⟨?_,st.below fun i b d _ _ X=>by rw[r2 i]at X;cases X⟩;cases he with
   | ret hv=>cases hv;rfl
def Zrh:laidOutB Tryz.prog=true:=Kq0
def ZGw:ownKnob Tryz.prog.godebug=none:=Kq0
def Zt8(L:Os)(h:L.Started)(H:Type)(enc:J×N->H):
 ReturnsInHanded {} Tryz.checked L 9 .any (Rows.termSubstsSpec.pre6 enc Tryz.prog Tryz.f9 Rows.termSubstsRow.domain false) (Rows.termSubstsSpec.post enc Tryz.prog Tryz.f9 false true false false):=by
 refine returnsInHanded_of_change (C:=Tryz.checked) ZGw h Kq0 Tryz.func9
  (ChangeSpec.witness6 (enc:=enc) (C:=Tryz.checked) false ⟨#[],#[.agg #[V9 0,.string ⟨#[]⟩,V8,V8,V8],.agg #[.string ⟨#[]⟩,.string ⟨#[]⟩,V9 0,V9 0,.string ⟨#[]⟩,V8,V9 0,V9 0,.string ⟨#[]⟩,V8]],[]⟩ 8 Kq0 Kq0 Kq0 Kq0) ?_
 intro W base args ds gs F l Q P _;have r:∀(j:Nat) t v,Tryz.f9.params[j]? =some t->args[j]? =some v->Value.okWide Tryz.prog W .any base t v:=l;have A:=Q;obtain⟨p,q,E,hV,rfl,hfz,hnd⟩:=Q;have S:DataW.TrodAll enc Tryz.prog W 0 (fun _=>true) true Tryz.f9.params.toList args.toList ds p:=E;rw[Tryz.params9]at S r;obtain⟨K,I,d0,d1,p0,p1,rfl,rfl,rfl,T,h1⟩:=trodAll_two S;obtain⟨rfl,rfl⟩:=trodVars_none hV;clear E l;simp only[Ge]at A;have k0:=r 0 33 K rfl rfl;have X:∃cs,K=.agg cs:=by have⟨cs,hcs,_⟩:=okWide_struct Tryz.underlying33 k0;exact⟨cs,hcs⟩
 have k1:=r 1 59 I rfl rfl;have V:∃cs,I=.agg cs:=by have⟨cs,hcs,_⟩:=okWide_struct Tryz.underlying59 k1;exact⟨cs,hcs⟩
 have D:∀x∈p0++p1,x.block<W.heap.size:=fun x y=>A.lt x y;refine(Zyo H enc W X T V h1).mono fun e W' ⟨he,G⟩=>?_;subst he
 exact⟨_,rfl,ZmK (pa:=p0++p1) (pv:=[]) A (fun _ _ _=>(trodAll_cons_mk (shut_bool Tryz.underlying4 _) trodAll_mk0))
  (fun sp B=>trodAll_mk2 (WideElems.Trod_stays Zrh Kq0 (of_decide_eq_true Kq0) T (fun x y=>G.same (D x (GC _ y))) (fun x y=>B x (GC _ y)))
    (WideElems.Trod_stays Zrh Kq0 (of_decide_eq_true Kq0) h1 (fun x y=>G.same (D x (Gu _ y))) (fun x y=>B x (Gu _ y)))) (fun _ _=>rfl) (by simp)
  G (ok_one Kq0 rfl (okWide_bool_mk Tryz.underlying4 _))⟩
def ZA9:Rows.termSubstsRow.holds Tryz.pinned (OpenSpec.ofChange Rows.termSubstsSpec):=
 OpenClaim.holds_of_wide 9 Tryz.f9 rfl rfl rfl rfl rfl rfl rfl ⟨rfl,rfl,rfl,rfl,rfl⟩ rfl rfl rfl rfl rfl Kq0 Tryz.func9 Kq0
  (of_decide_eq_true Kq0) (by unfold Func.isWrapper;first | (rw[if_pos (by decide +kernel)];kernel_rfl) | (rw[if_neg (by decide +kernel)];exact⟨rfl,rfl⟩))
  (fun os started H enc _=>Zt8 os started H enc)
theorem law_holds:Rows.TermSubstsSaid:=ZA9
#print axioms law_holds
end
end Go.Proofs.YtbnepjakjmnadaaGreat
end
end
