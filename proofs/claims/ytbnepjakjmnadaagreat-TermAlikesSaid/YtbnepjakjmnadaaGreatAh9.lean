/- TermAlikes returns true, whatever the arguments. No condition. -/
import Derived.Test.YtbnepjakjmnadaaGreatAh8
set_option linter.all false
set_option maxHeartbeats 2000000
set_option maxRecDepth 100000
noncomputable section
namespace Go.Proofs.YtbnepjakjmnadaaGreat
open Go.Proofs.Tryz Go.Lf
variable{B Bn:U Y}{b:Nat}{env:NM}{l:U Za}{q β:Type}
def ZWp{m:Type}{l:U m}{x:m}(h:l.length<=4000000)(p:b<=1000):app b l [x]=some (l++[x]):=by
 refine Zxf ?_;have:(2*(l.length + [x].length)+1000)*b<=8001002*1000:=Nat.mul_le_mul Vf p;have e:(2:Nat) ^ 47=140737488355328:=by decide
 rw[e];omega
def Zhc{m:Type}{body:U m×Int->(U m×Int->O (U m))->O (U m)}(l:U q)(c:q->m)(fin:U m->O (U m))(y:l.length<=BS)(b:Nat)(C:b<=1000)
 (h:∀s (k:Int) p,body (s,k) p=bif decide (k<(l.length:Int)) then(Z7 l k).bind fun x=>(app b s [c x]).bind fun z=>p (z,Xa (k+1)) else fin s) {F:Nat} (G:10^19<=F) (s:U m) (E:s.length<=2500000):loop F body (s,0)=fin (s++l.map c):=by
 unfold BS at y;refine Z8 (fun(k:Nat)(s:U m)=>(s,(k:Int))) l (fun rest s=>s.length+rest.length<=3600000) (fun rest s=>fin (s++rest.map c)) ?_ ?_ V6 s V6;.intro s p _;rw[h,ZI,Cq0];simp
 intro k x rest s p D A B t ih;have r:s.length+rest.length+1<=3600000:=by have:=t;simp[Kd]at this;omega
 show body (s,(k:Int)) p=_;rw[h,ZO A,Cq1,B,Bq0,ZWp V6 C,Bq0,Qj V6,ih _ Vf];simp
def ZpF{F:Nat}(p:10^19<=F)(s:U Part)(h:s.length<=2500000)(l:U Za)(m:l.length<=BS):Zpo F s l=some (s++l.map .cl):=
 Zhc (body:=Zq8 l) l .cl some m 16 V6 (fun s k q=>rfl) p s h
def ZuW{F:Nat}(p:10^19<=F)(s:U Part)(h:s.length<=2500000)(l:U Term)(m:l.length<=BS):Zpp F s l=some (s++l.map .pr):=
 Zhc (body:=Zq9 l) l .pr some m 16 V6 (fun s k q=>rfl) p s h
def parts_eq{F:Nat}(l:10^19<=F)(p:Part)(h:(Ya p).length<=BS):Zf3 F p=some (Ya p):=by
 unfold Zf3;cases p with
 | pr t=>
   simp[Ya,K1,QP]at h;have r:t.args.length<=BS:=V6;have m:t.qK.length<=BS:=V6;have q:t.qQ.length<=BS:=V6;have B:=ZpF l (t.args.map Part.ex) (by unfold BS at r;simp;omega) t.qK m;have A:=ZuW l (t.args.map Part.ex++t.qK.map Part.cl) (by unfold BS at r m;simp;omega) t.qQ q;have:=Zhc (body:=Zra F ⟨t⟩) t.args .ex (fun s=>(Zpo F s t.qK).bind fun x=>(Zpp F x t.qQ).bind fun y=>some y) r 16 V6 (fun s k C=>rfl) l [] Vd;show Zua F ⟨t⟩=_;unfold Zua;rw[this,Jx,B,Bq0,A];rfl
 | ex e=>
   exact Zhc (body:=Zq7 ⟨e⟩) e.qQ .ex some (by simpa[Ya]using h) 16 V6 (fun s k C=>rfl) l [] Vd
 | cl c=>
   simp[Ya,K1,QP]at h;have m:c.qK.length<=BS:=V6;have q:c.qQ.length<=BS:=V6;have B:=ZpF l [] Vd c.qK m;have A:=ZuW l ([]++c.qK.map Part.cl) (by unfold BS at m;simp;omega) c.qQ q;show Zt9 F ⟨c⟩=_;unfold Zt9;rw[B,Bq0,A];rfl
def Zyk{p:Part}(h:Sm p):(Ya p).length<=BS:=by have:=Uv p;have:=h.1;omega
def ZCe{p:Part}(h:UF p=true)(B:Loc p):(Ya p).length<=100:=by
 cases p with
 | pr t=>
   have h:Zff t=true:=h;have e:(Ya (.pr t)).length=t.args.length+t.qK.length+t.qQ.length:=by simp[Ya,GI]
   rw[e];unfold Zff at h;rw[Ba0]at h;replace h:=h.1
   have l:∀{a d k:Nat},szs t a d k=true->t.args.length=a/\t.qK.length=d/\t.qQ.length=k:=fun h=>by
    unfold szs at h;simp only[Ba0,beq_iff_eq]at h;exact⟨h.1.1,h.1.2,h.2⟩
   cases m:(t.op==1||t.op==7)<;>rw[m]at h;case true=>have:=l h;omega
   cases r:t.op==2<;>rw[r]at h;case true=>simp only[Cq1,Cq0,Ba0,decide_eq_true_eq]at h;have:=l h.2;omega
   cases A:t.op==3<;>rw[A]at h;case true=>have:=l h;omega
   cases y:t.op==4<;>rw[y]at h;case true=>simp only[Cq1,Cq0,Ba0,decide_eq_true_eq]at h;have:=l h.2;omega
   cases x:t.op==5<;>rw[x]at h;case true=>have:=l h;omega
   simp only[Cq0,Ba0]at h;have:=l h.2;omega
 | ex e=>
   have h:KU e=true:=h;have q:(Ya (.ex e)).length=e.qQ.length:=by simp[Ya]
   rw[q];unfold KU at h;cases m:e.op==1<;>rw[m]at h;case true=>simp only[Cq1,Ba0,beq_iff_eq]at h;omega
   cases r:e.op==2<;>rw[r]at h;case true=>simp only[Cq1,Cq0,Ba0,beq_iff_eq]at h;omega
   simp only[Cq0,Ba0,beq_iff_eq]at h;omega
 | cl c=>
   have h:U9 c=true:=h;have q:(Ya (.cl c)).length=c.qK.length+c.qQ.length:=by simp[Ya]
   rw[q];unfold U9 at h;rw[Ba0,beq_iff_eq]at h;have⟨h1,h⟩:=h;cases m:c.qV==2<;>rw[m]at h;.simp only[Cq0,Ba0,beq_iff_eq,decide_eq_true_eq]at h;omega
   simp only[Cq1,Ba0,beq_iff_eq,decide_eq_true_eq]at h;omega
def ZJV{F:Nat}(D:10^19<=F):∀n p,Sm p->(pre p).length<=n->∀Fr,n<=Fr->loop Fr (ZmL F) p=some (dep p:Int):=by
 intro n
 induction n with|zero=>intro p m hn;have:=Y7 p;omega|succ n ih=>
   intro p m hn Fr C;obtain⟨G,rfl⟩:∃G,Fr=G+1:=⟨Fr-1,by omega⟩;rw[ZV];have y:=Zyk m;have l:∀k∈Ya p,loop G (ZmL F) k=some (dep k:Int):=fun k q=>ih k (m.kid q) (by have:=ZY q;omega) G V6;generalize loop G (ZmL F)=nx1 at l;unfold ZmL;rw[parts_eq D p y,Bq0];unfold BS at y;have:=Z8 (body:=ZmM nx1 (Ya p)) (fun(k:Nat)(s:Nat)=>((s:Int),(k:Int))) (Ya p) (fun _ s=>s<=BS) (fun rest s=>some (((max s (Zf6 (rest.map dep))+1:Nat)):Int)) (F:=F) ?_ ?_ V6 0 (Gq _);.rw[Zry];rw[Nat.zero_max]at this;exact this
   .intro s A h;unfold BS at h;simp only[ZmM,ZI,Cq0];rw[Qj V6];simp[Zf6]
   intro k x rest s A t q B h ih;unfold BS at h;simp only[ZmM,ZO q,Cq1,B,Bq0,l x t];rw[Zqw,Qj V6];have E:=ZQd x;have r:=(m.kid t).1;have:=ih (max s (dep x)) (by unfold BS at r ⊢;omega);rw[this,JT,ZeP,Nat.max_assoc]
def V1(m:Nat)(l:U Part):PR (Z×Int):=bif decide (m+l.length<=60)&&l.all UF then .ok (true,((m+l.length:Nat):Int)) else .Yq 2
def ZX6(n:Nat):decide ((n:Int)<=60)=decide (n<=60):=by
 by_cases z:n<=60;.rw[decide_eq_true z,decide_eq_true V6]
 rw[decide_eq_false z,decide_eq_false V6]
def ZSc{F:Nat}(I:10^19<=F):∀n p,Lo p->(pre p).length<=n->∀Fr,n<=Fr->∀m:Nat,m<=60->loop Fr (Zd1 F) (p,(m:Int))=some (V1 m (pre p)):=by
 intro n
 induction n with|zero=>intro p y hn;have:=Y7 p;omega|succ n ih=>
   intro p y hn Fr P m Q;obtain⟨G,rfl⟩:∃G,Fr=G+1:=⟨Fr-1,by omega⟩;rw[ZV];have r:∀k∈Ya p,∀m:Nat,m<=60->loop G (Zd1 F) (k,(m:Int))=some (V1 m (pre k)):=fun k A=>ih k (y.kid A) (by have:=ZY A;omega) G V6;generalize loop G (Zd1 F)=nx1 at r;unfold Zd1;dsimp only;rw[Qj V6,ZX6,Ui,Bq0,Zg1,ZCf I p y.loc,Bq0,Zg1];by_cases q:m+1<=60
   .rw[decide_eq_true q,Cq1];cases h:UF p;.show some (PR.Yq 2)=_;rw[pre_eq];unfold V1;simp[h]
    simp only[Cq1,Q1,Cq0];have S:=ZCe h y.loc;rw[parts_eq I p (by unfold BS;omega),Bq0];have:=Z8 (body:=ZmJ nx1 (Ya p)) (fun(k:Nat)(s:Nat)=>((k:Int),(s:Int))) (Ya p) (fun _ s=>s<=60) (fun rest s=>some (V1 s (rest.flatMap pre))) (F:=F) ?_ ?_ V6 (m+1) q
    .have e:V1 (m+1) ((Ya p).flatMap pre)=V1 m (pre p):=by
      rw[pre_eq p];unfold V1;simp only[Kd,List.all_cons,h,G3];rw[show m+1+((Ya p).flatMap pre).length=m+(((Ya p).flatMap pre).length+1) by omega]
     rw[<-e];exact this
    .intro s E l;simp only[ZmJ,ZI,Cq0];unfold V1;rw[decide_eq_true (show s+(([]:U Part).flatMap pre).length<=60 by simpa using l)];simp
    intro k x rest s E K A L l ih;simp only[ZmJ,ZO A,Cq1,L,Bq0,r x K s l];rw[Qj V6,Kf];by_cases C:s+(pre x).length<=60
    .cases B:(pre x).all UF
     .have t:V1 s (pre x)=.Yq 2:=by unfold V1;rw[B,Bool.and_false];rfl
      have D:V1 s (pre x++rest.flatMap pre)=.Yq 2:=by unfold V1;rw[List.all_append,B,Gp,Bool.and_false];rfl
      rw[t,D,ZxY]
     have t:V1 s (pre x)=.ok (true,((s+(pre x).length:Nat):Int)):=by unfold V1;rw[B,decide_eq_true C];rfl
     rw[t];show E (((k+1:Nat):Int),((s+(pre x).length:Nat):Int))=_;rw[ih (s+(pre x).length) C];unfold V1;rw[List.all_append,B,K1,G3,GI]
    have t:V1 s (pre x)=.Yq 2:=by unfold V1;rw[decide_eq_false C];rfl
    have D:V1 s (pre x++rest.flatMap pre)=.Yq 2:=by unfold V1;rw[K1,decide_eq_false V6];rfl
    rw[t,D,ZxY]
   rw[decide_eq_false q,Cq0,pre_eq];unfold V1;rw[Kd,decide_eq_false V6];rfl
def U0(A:U Za->Z):Part->Z
 | .pr t=>!(t.op==4)||A t.qK
 | _=>true
def ZSb{F:Nat}(L:10^19<=F)(A:U Za->Z):∀n p,Sm p->(∀t,Part.pr t∈pre p->t.op=4->ZfA F t.qK=some (bif A t.qK then .ok () else .Yq 2))->(pre p).length<=n->∀Fr,n<=Fr->loop Fr (Zgj F) p=some (bif(pre p).all (U0 A) then .ok true else .Yq 2):=by
 intro n
 induction n with|zero=>intro p r y hn;have:=Y7 p;omega|succ n ih=>
   intro p r y hn Fr K;obtain⟨G,rfl⟩:∃G,Fr=G+1:=⟨Fr-1,by omega⟩;rw[ZV];have B:=Zyk r;have l:∀k∈Ya p,loop G (Zgj F) k=some (bif(pre k).all (U0 A) then .ok true else .Yq 2):=fun k h=>ih k (r.kid h) (fun t E=>y t (Yf h E)) (by have:=ZY h;omega) G V6;generalize loop G (Zgj F)=nx1 at l
   have m:(Zbc F p nx1) ()=some (bif((Ya p).flatMap pre).all (U0 A) then .ok true else .Yq 2):=by
    unfold Zbc;simp only[Q1,Cq0];rw[parts_eq L p B,Bq0];unfold BS at B;refine Z8 (body:=ZmK nx1 (Ya p)) (fun(k:Nat)(_:Unit)=>(k:Int)) (Ya p) (fun _ _=>True) (fun rest _=>some (bif(rest.flatMap pre).all (U0 A) then .ok true else .Yq 2)) (F:=F) ?_ ?_ V6 () trivial;.intro s C _;simp only[ZmK,ZI,Cq0];rfl
    intro k x rest s C D h I _ ih;simp only[ZmK,ZO h,Cq1,I,Bq0,l x D];rw[Qj V6,Kf,List.all_append];cases (pre x).all (U0 A);.rfl
    exact ih () trivial
   rw[pre_eq p,List.all_cons];unfold Zgj;cases p with
   | pr t=>
     show(bif(true&&(t.op==4)) then _ else _)=_;rw[G3];by_cases q:t.op=4
     .rw[y t (Yy _) q,q];simp only[Int.reduceBEq,Cq1,Bq0,U0,q,Q1,Gk];cases A t.qK;.rfl
      show(Zbc F (.pr t) nx1) ()=_;rw[m];rfl
     have:(t.op==4)=false:=by simpa using q
     simp only[this,Cq0,U0,G9,Bool.true_or,G3];exact m
   | ex e=>exact m
   | cl c=>exact m
def J9(A:U Za->Z)(p:Part):Z:=decide ((pre p).length<=60)&&(pre p).all UF&&decide (dep p<=12)&&(pre p).all (U0 A)
def ZX9(n:Nat):decide ((n:Int)<=12)=decide (n<=12):=by
 by_cases z:n<=12;.rw[decide_eq_true z,decide_eq_true V6]
 rw[decide_eq_false z,decide_eq_false V6]
def ZAD{F:Nat}(m:10^19<=F)(A:U Za->Z)(p:Part)(h:Lo p)(x:(pre p).length<=F)(y:(pre p).length<=60->(pre p).all UF=true->∀t,Part.pr t∈pre p->t.op=4->ZfA F t.qK=some (bif A t.qK then .ok () else .Yq 2)):ZEW F p=some (bif J9 A p then .ok () else .Yq 2):=by
 unfold ZEW J9;have h1:=ZSc m _ p h V7 F V6 0 V6;have q:loop F (Zd1 F) (p,0)=some (V1 0 (pre p)):=h1;rw[q,Bq0];unfold V1;rw[G6];by_cases l:(pre p).length<=60
 .cases r:(pre p).all UF;.rw[Bool.and_false];simp[UJ]
  rw[decide_eq_true l];have h:Sm p:=⟨by unfold BS;omega,h⟩;show(ZmI F p) ((pre p).length:Int)=_;unfold ZmI;rw[show ZI6 F p=some (dep p:Int) from ZJV m _ p h V7 F V6,Bq0,ZX9,Ui,Bq0,Zg1,ZSb m A _ p h (y l r) V7 F V6,Bq0];cases decide (dep p<=12)<;>cases (pre p).all (U0 A)<;>rfl
 rw[decide_eq_false l];simp[UJ]
def ZwX{F:Nat}(m:10^19<=F)(A:U Za->Z)(t:Term)(l:Lo (.pr t))(h:(pre (.pr t)).length<=F)(p:(pre (.pr t)).length<=60->(pre (.pr t)).all UF=true->∀x,Part.pr x∈pre (.pr t)->x.op=4->ZfA F x.qK=some (bif A x.qK then .ok () else .Yq 2)):Zq6 F t=some (bif J9 A (.pr t) then 0 else 2):=by unfold Zq6;rw[ZAD m A _ l h p,Bq0];cases J9 A (.pr t)<;>rfl
def WJ:O Nat->Int
 | some a=>a
 | none=>-1
def dec(o:O Nat)(n:Nat):O Nat:=match o with|some a=>if n<=a then some (a-n) else none|none=>none
def ZFv(o:O Nat):dec o 0=o:=by cases o<;>simp[dec]
def ZcR(o:O Nat)(a b:Nat):dec (dec o a) b=dec o (a+b):=by
 cases o with|none=>rfl|some x=>
   show dec (if a<=x then some (x-a) else none) b=(if a+b<=x then some (x-(a+b)) else none);by_cases h:a<=x
   .rw[if_pos h];show(if b<=x-a then some (x-a-b) else none)=_;by_cases h2:b<=x-a;.rw[if_pos h2,if_pos V6,Nat.sub_sub]
    rw[if_neg h2,if_neg V6]
   rw[if_neg h,if_neg V6];rfl
def Zx0(o:O Nat):decide (WJ o >=0)=o.isSome:=by cases o with|none=>rfl|some a=>exact decide_eq_true (by show(a:Int) >=0;omega)
def ZQe(a:Nat)(h:a<=1000):Xa ((a:Int)-1)=WJ (dec (some a) 1):=by
 by_cases l:1<=a;.rw[Ky V6 V6];simp[dec,if_pos l,WJ];omega
 obtain rfl:a=0:=V6;rw[Ky V6 V6];rfl
def Zgt{o:O Nat}{n a:Nat}(h:dec o n=some a)(m:∀x,o=some x->x<=b):a<=b:=by
 cases o with|none=>cases h|some x=>
   have l:(if n<=x then some (x-n) else none)=some a:=h;have:=m x rfl;by_cases hn:n<=x;.rw[if_pos hn]at l;cases l;omega
   rw[if_neg hn]at l;cases l
def Zb5{m:Type}{body:Int×Int->(Int×Int->O β)->O β}(l:U m)(c:m->Part)(g:m->Int->O Int)(fin:O Nat->O β)(B:l.length<=BB)
 (D:∀x∈l,∀a:Nat,a<=1000->g x (a:Int)=some (WJ (dec (some a) (pre (c x)).length)))
 (E:∀(i v:Int) h,body (i,v) h=bif(decide (i<(l.length:Int))&&decide (v >=0)) then(Z7 l i).bind fun x=>(g x v).bind fun y=>h (Xa (i+1),y) else body ((l.length:Int),v) h)
 (he:∀o h,body ((l.length:Int),WJ o) h=fin o) {F:Nat} (G:10^19<=F) (o:O Nat) (A:∀x,o=some x->x<=1000):loop F body (0,WJ o)=fin (dec o ((l.map c).flatMap pre).length):=by
 unfold BB at B;refine Z8 (fun(k:Nat)(o:O Nat)=>((k:Int),WJ o)) l (fun _ o=>∀x,o=some x->x<=1000) (fun rest o=>fin (dec o ((rest.map c).flatMap pre).length)) ?_ ?_ V6 o A;.intro s h _;rw[he];simp[ZFv]
 intro k x rest s h t C p q ih;show body ((k:Int),WJ s) h=_;rw[E,ZO C,Zx0,G3];cases s with
 | none=>
   show body ((l.length:Int),WJ none) h=_;rw[he];rfl
 | some a=>
   show((Z7 l (k:Int)).bind fun x=>_)=_;rw[p,Bq0];show(g x (a:Int)).bind _=_;rw[D x t a (q a rfl),Bq0,Qj V6,ih _ (fun y r=>Zgt r q),ZcR];simp
def Lo.mem{x p:Part}(h:Lo p)(m:x∈pre p):Lo x:=fun y l=>h y (Jt l m)
def Zsn{F:Nat}(A:10^19<=F):∀n e,Lo (.ex e)->(pre (.ex e)).length<=n->∀Fr,n<=Fr->∀a:Nat,a<=1000->loop Fr (ZmD F) (e,(a:Int))=some (WJ (dec (some a) (pre (.ex e)).length)):=by
 intro n
 induction n with|zero=>intro e p hn;have:=Y7 (.ex e);omega|succ n ih=>
   intro e p hn Fr t a m;obtain⟨G,rfl⟩:∃G,Fr=G+1:=⟨Fr-1,by omega⟩;rw[ZV];have h:∀x∈e.qQ,∀a:Nat,a<=1000->(fun x v=>loop G (ZmD F) (x,v)) x (a:Int)=some (WJ (dec (some a) (pre (.ex x)).length)):=fun x l a m=>ih x (p.kid (Xd l)) (by have:=ZY (Xd l);omega) G V6 a m;generalize loop G (ZmD F)=nx1 at h;unfold ZmD;dsimp only
   rw[ZQe a m,Zb5 (body:=ZmE e nx1) e.qQ .ex (fun x v=>nx1 (x,v)) (fun o=>some (WJ o)) p.loc.2 h
    (fun i v q=>by simp[ZmE,ZI,Gp,Cq0]) (fun o q=>by simp[ZmE,ZI,Gp,Cq0]) A _ (fun x l=>Zgt l (fun y r=>by cases r;exact m)),ZcR]
   rw[Qe];show some (WJ (dec (some a) (1+((Ya (.ex e)).flatMap pre).length)))=_;rw[Nat.add_comm]
def ST(F n:Nat):Prop:=∀t,Lo (.pr t)->(pre (.pr t)).length<=n->∀Fr,n<=Fr->∀a:Nat,a<=1000->loop Fr (Zkf F) (t,(a:Int))=some (WJ (dec (some a) (pre (.pr t)).length),(dec (some a) (pre (.pr t)).length).isSome)
def SC(F n:Nat):Prop:=∀c next,Lo (.cl c)->(pre (.cl c)).length<=n->(∀t,Part.pr t∈pre (.cl c)->∀a:Nat,a<=1000->next (t,(a:Int))=some (WJ (dec (some a) (pre (.pr t)).length),(dec (some a) (pre (.pr t)).length).isSome))->∀Fr,n<=Fr->∀a:Nat,a<=1000->loop Fr (Zgq F next) (c,(a:Int))=some (WJ (dec (some a) (pre (.cl c)).length))
def ZKy{F n:Nat}(C:10^19<=F)(ih:SC F n):SC F (n+1):=by
 intro c next B hn h Fr L a m;obtain⟨G,rfl⟩:∃G,Fr=G+1:=⟨Fr-1,by omega⟩
 rw[ZV];have⟨l1,l2,l3,l4,l5⟩:=B.loc;have r:∀x∈c.qK,∀a:Nat,a<=1000->(fun x v=>loop G (Zgq F next) (x,v)) x (a:Int)=some (WJ (dec (some a) (pre (.cl x)).length)):=fun x l a m=>ih x next (B.kid (Yw l)) (by have:=ZY (Yw l);omega) (fun t E=>h t (Yf (Yw l) E)) G V6 a m
 generalize loop G (Zgq F next)=p at r;unfold Zgq;dsimp only
 have K:∀o:O Nat,(∀x,o=some x->x<=1000)->loop F (ZcM c next) (0,WJ o)=some (WJ (dec o ((c.qQ.map Part.pr).flatMap pre).length)):=fun o I=>
  Zb5 (body:=ZcM c next) c.qQ .pr (fun x v=>(next (x,v)).bind fun y=>some y.1) (fun o=>some (WJ o)) l4 (fun x l a m=>by
   show(next (x,(a:Int))).bind _=_;rw[h x (Yf (Y5 l) (Yy _)) a m];rfl)
   (fun i v A=>by
     simp[ZcM,ZI,Gp,Cq0];cases Z7 c.qQ i with|none=>rfl|some x=>dsimp only[Bq0];cases next (x,v)<;>rfl) (fun o A=>by simp[ZcM,ZI,Gp,Cq0]) C o I
 have q:∀x,dec (some a) 1=some x->x<=1000:=fun x l=>Zgt l (fun y D=>by cases D;exact m);rw[ZQe a m]
 have:=Zb5 (body:=ZhU F c next p) c.qK .cl (fun x v=>p (x,v)) (fun o=>loop F (ZcM c next) (0,WJ o)) l3 r
  (fun i v A=>by simp[ZhU,ZI,Gp,Cq0]) (fun o A=>by simp[ZhU,ZI,Gp,Cq0]) C _ q
 rw[this,K _ (fun x l=>Zgt l q),ZcR,ZcR]
 have e:(pre (.cl c)).length=1+(((c.qK.map Part.cl).flatMap pre).length+((c.qQ.map Part.pr).flatMap pre).length):=by
  rw[Qe];show((c.qK.map Part.cl++c.qQ.map Part.pr).flatMap pre).length+1=_;rw[QQ,K1];omega
 rw[e]
def ZKx{F n:Nat}(C:10^19<=F)(E:n+1<=F)(ih:ST F n)(D:SC F n):ST F (n+1):=by
 intro t A hn Fr P a m;obtain⟨G,rfl⟩:∃G,Fr=G+1:=⟨Fr-1,by omega⟩;rw[ZV];have⟨l1,l2,l3,l4⟩:=A.loc;have l:∀x,Part.pr x∈pre (.pr t)->(pre (.pr x)).length<=n->∀a:Nat,a<=1000->loop G (Zkf F) (x,(a:Int))=some (WJ (dec (some a) (pre (.pr x)).length),(dec (some a) (pre (.pr x)).length).isSome):=fun x h I a m=>ih x (Lo.mem A h) I G V6 a m;generalize loop G (Zkf F)=nx1 at l;unfold Zkf;dsimp only
 have K:∀o:O Nat,(∀x,o=some x->x<=1000)->loop F (Zgh t nx1) (0,WJ o)=some (WJ (dec o ((t.qQ.map Part.pr).flatMap pre).length),(dec o ((t.qQ.map Part.pr).flatMap pre).length).isSome):=fun o B=>
  Zb5 (body:=Zgh t nx1) t.qQ .pr (fun x v=>(nx1 (x,v)).bind fun y=>some y.1) (fun o=>some (WJ o,o.isSome)) l4 (fun x h a m=>by
   show(nx1 (x,(a:Int))).bind _=_;rw[l x (Yf (Y0 h) (Yy _)) (by have:=ZY (Y0 h);omega) a m];rfl)
   (fun i v p=>by
     simp[Zgh,ZI,Gp,Cq0];cases Z7 t.qQ i with|none=>rfl|some x=>dsimp only[Bq0];cases nx1 (x,v)<;>rfl) (fun o p=>by simp[Zgh,ZI,Gp,Cq0,Zx0]) C o B
 have L:∀o:O Nat,(∀x,o=some x->x<=1000)->loop F (Zgi F t nx1) (0,WJ o)=some (WJ (dec (dec o ((t.qK.map Part.cl).flatMap pre).length) ((t.qQ.map Part.pr).flatMap pre).length),(dec (dec o ((t.qK.map Part.cl).flatMap pre).length) ((t.qQ.map Part.pr).flatMap pre).length).isSome):=fun o B=>by
  rw[Zb5 (body:=Zgi F t nx1) t.qK .cl (fun x v=>ZFj F nx1 x v) (fun o=>loop F (Zgh t nx1) (0,WJ o)) l3 (fun x h a m=>D x nx1 (A.kid (YP h)) (by have:=ZY (YP h);omega) (fun y r a m=>l y (Yf (YP h) r) (by have:=Jm r;have:=ZY (YP h);omega) a m) F V6 a m)
   (fun i v p=>by simp[Zgi,ZI,Gp,Cq0]) (fun o p=>by simp[Zgi,ZI,Gp,Cq0]) C o B,K _ (fun x h=>Zgt h B)]
 have q:∀x,dec (some a) 1=some x->x<=1000:=fun x h=>Zgt h (fun y r=>by cases r;exact m)
 rw[ZQe a m,Zb5 (body:=ZmH F t nx1) t.args .ex (fun x v=>ZPu F x v) (fun o=>loop F (Zgi F t nx1) (0,WJ o)) l2 (fun x h a m=>Zsn C _ x (A.kid (QV h)) V7 F (by have:=ZY (QV h);omega) a m)
     (fun i v p=>by simp[ZmH,ZI,Gp,Cq0]) (fun o p=>by simp[ZmH,ZI,Gp,Cq0]) C _ q,L _ (fun x h=>Zgt h q),ZcR,ZcR,ZcR]
 have e:(pre (.pr t)).length=1+(((t.args.map Part.ex).flatMap pre).length+(((t.qK.map Part.cl).flatMap pre).length+((t.qQ.map Part.pr).flatMap pre).length)):=by
  rw[Qe];show((t.args.map Part.ex++t.qK.map Part.cl++t.qQ.map Part.pr).flatMap pre).length+1=_;rw[QQ,QQ,K1,K1];omega
 rw[e]
def STC{F:Nat}(h:10^19<=F):∀n,n<=F->ST F n/\SC F n:=by
 intro n;induction n with
 | zero=>intro _;exact⟨fun t l hn=>by have:=Y7 (.pr t);omega,fun c m l hn=>by have:=Y7 (.cl c);omega⟩
 | succ n ih=>intro hn;have⟨a,b⟩:=ih V6;exact⟨ZKx h V6 a b,ZKy h b⟩
def ZCc{F:Nat}(p:10^19<=F)(t:Term)(m:Lo (.pr t))(l:(pre (.pr t)).length<=F):ZPy F t 60=some (WJ (dec (some 60) (pre (.pr t)).length),decide ((pre (.pr t)).length<=60)):=by
 have:=(STC p _ l).1 t m V7 F l 60 V6;show loop F (Zkf F) (t,((60:Nat):Int))=_;rw[this];congr 2;unfold dec;by_cases h:(pre (.pr t)).length<=60;.show(if _ then _ else _:O Nat).isSome=_;rw[if_pos h,decide_eq_true h];rfl
 show(if _ then _ else _:O Nat).isSome=_;rw[if_neg h,decide_eq_false h];rfl
def DT(F:Nat)(A:U Za->Z)(n:Nat):Prop:=∀t,Sm (.pr t)->(pre (.pr t)).all UF=true->(∀x,Part.pr x∈pre (.pr t)->x.op=4->∃s,Zom F x.qK=some (s,A x.qK))->(pre (.pr t)).length<=n->∀Fr,n<=Fr->loop Fr (ZmF F) t=some ((pre (.pr t)).all (U0 A))
def DC(F:Nat)(A:U Za->Z)(n:Nat):Prop:=∀(l:U Za) next,l.length<=BB->(∀c∈l,Sm (.cl c)/\(pre (.cl c)).all UF=true)->((l.map Part.cl).flatMap pre).length<=n->(∀t,Part.pr t∈(l.map Part.cl).flatMap pre->next t=some ((pre (.pr t)).all (U0 A)))->∀Fr,n<Fr->loop Fr (Zgp F next) l=some (((l.map Part.cl).flatMap pre).all (U0 A))
def ZKI{F:Nat}(hF:10^19<=F)(A:U Za->Z){n:Nat}(ih:∀m,m<n->DC F A m):DC F A n:=by
 intro l next X V hn h Fr hFr;obtain⟨G,rfl⟩:∃G,Fr=G+1:=⟨Fr-1,by omega⟩
 rw[ZV]
 have r:∀c∈l,(pre (.cl c)).length<=n/\∀x∈pre (.cl c),x∈(l.map Part.cl).flatMap pre:=fun c p=>
  ⟨KK (Wv (Gi p)) hn,fun x q=>G0.2 ⟨_,Gi p,q⟩⟩
 have E:∀c∈l,loop G (Zgp F next) c.qK=some (((c.qK.map Part.cl).flatMap pre).all (U0 A)):=fun c p=>by
  have⟨h1,h2⟩:=r c p;have⟨B,hsh⟩:=V c p
  have hd:((c.qK.map Part.cl).flatMap pre).length<(pre (.cl c)).length:=by
   rw[Qe];show _<((c.qK.map Part.cl++c.qQ.map Part.pr).flatMap pre).length+1;rw[QQ,K1];omega
  refine ih (n-1) V6 c.qK next B.loc.2.2.1 (fun x q=>⟨B.kid (Yw q),?_⟩) V6 (fun t P=>h t (h2 _ ?_)) G V6
  .rw[KB]at hsh ⊢;exact fun y L=>hsh y (Yf (Yw q) L)
  have⟨y,L,P⟩:=G0.1 P;obtain⟨x,q,rfl⟩:=Ge.1 L;exact Yf (Yw q) P
 generalize loop G (Zgp F next)=I at E;unfold Zgp;unfold BB at X;refine Z8 (body:=ZhT l next I) (fun(k:Nat)(_:Unit)=>(k:Int)) l (fun _ _=>True) (fun rest _=>some (((rest.map Part.cl).flatMap pre).all (U0 A))) (F:=F) ?_ ?_ V6 () trivial;.intro s W _;simp only[ZhT,ZI,Cq0];rfl
 intro k c rest s W q T hg _ K;have⟨B,hsh⟩:=V c q;have C:U9 c=true:=by rw[KB]at hsh;exact hsh _ (Yy _)
 obtain⟨k0,D⟩:∃k0,c.qQ=[k0]:=by
  unfold U9 at C;rw[Ba0]at C;have:=C.1;rw[beq_iff_eq]at this;match T:c.qQ,this with|[k0],_=>exact⟨k0,rfl⟩
 have Q:Part.pr k0∈pre (.cl c):=Yf (Y5 (by rw[D];simp)) (Yy _)
 have e:(pre (.cl c)).all (U0 A)=(((c.qK.map Part.cl).flatMap pre).all (U0 A)&&(pre (.pr k0)).all (U0 A)):=by
  rw[pre_eq,List.all_cons];show(true&&((c.qK.map Part.cl++c.qQ.map Part.pr).flatMap pre).all (U0 A))=_;rw[D,QQ,List.all_append];simp
 have S:Z7 c.qQ 0=some k0:=by rw[D];rfl
 simp only[ZhT,ZO T,Cq1,hg,Bq0,E c q,JT,Kf,List.all_append];rw[Qj V6,e];cases ((c.qK.map Part.cl).flatMap pre).all (U0 A);.rfl
 simp only[Q1,G9,gd,Cq1,Bq0,S,h k0 ((r c q).2 _ Q),G3];cases (pre (.pr k0)).all (U0 A);.rfl
 exact K () trivial
def ZKH{F:Nat}(hF:10^19<=F)(A:U Za->Z){n:Nat}(T:n<F)(ih:DT F A n)(Q:DC F A n):DT F A (n+1):=by
 intro t S D hA hn Fr hFr;obtain⟨G,rfl⟩:∃G,Fr=G+1:=⟨Fr-1,by omega⟩;rw[ZV];have⟨l1,l2,l3,l4⟩:=S.loc;have C:∀{x y},x∈pre (.pr t)->y∈pre x->y∈pre (.pr t):=fun m r=>Jt r m
 have ZTd:∀x,x∈pre (.pr t)->(pre x).all UF=true:=fun x m=>by
  rw[KB]at D ⊢;exact fun y r=>D y (C m r)
 have q:∀x,Part.pr x∈pre (.pr t)->(pre (.pr x)).length<=n->loop G (ZmF F) x=some ((pre (.pr x)).all (U0 A)):=fun x m hl=>ih x (S.mem m) (ZTd _ m) (fun y r=>hA y (C m r)) hl G V6;generalize loop G (ZmF F)=nx1 at q;unfold BB at l4
 have j:(Zjh F t nx1) ()=some (((t.qQ.map Part.pr).flatMap pre).all (U0 A)):=by
  unfold Zjh;refine Z8 (body:=ZmG t nx1) (fun(k:Nat)(_:Unit)=>(k:Int)) t.qQ (fun _ _=>True) (fun rest _=>some (((rest.map Part.pr).flatMap pre).all (U0 A))) (F:=F) ?_ ?_ V6 () trivial;.intro s nx _;simp only[ZmG,ZI,Cq0];rfl
  intro k x rest s nx m B hg _ P;simp only[ZmG,ZO B,Cq1,hg,Bq0,q x (Yf (Y0 m) (Yy _)) (by have:=ZY (Y0 m);omega),JT,Kf,List.all_append];rw[Qj V6];cases (pre (.pr x)).all (U0 A);.rfl
  exact P () trivial
 have V:∀l:U Zi,((l.map Part.ex).flatMap pre).all (U0 A)=true:=by
  have:∀p:Part,∀e,p=.ex e->(pre p).all (U0 A)=true:=by
   intro p
   induction p using ZbY with|h p L=>
     rintro e rfl;rw[pre_eq,List.all_cons,Ba0];refine⟨rfl,?_⟩;rw[KB];intro y r;have⟨k,B,r⟩:=G0.1 r;obtain⟨x,m,rfl⟩:=Ge.1 B;exact KB.1 (L _ B x rfl) y r
  intro l;rw[KB];intro y r;have⟨k,B,r⟩:=G0.1 r;obtain⟨x,m,rfl⟩:=Ge.1 B;exact KB.1 (this _ x rfl) y r
 have e:(pre (.pr t)).all (U0 A)=((!(t.op==4)||A t.qK)&&(((t.qK.map Part.cl).flatMap pre).all (U0 A)&&((t.qQ.map Part.pr).flatMap pre).all (U0 A))):=by
  rw[pre_eq,List.all_cons];show((!(t.op==4)||A t.qK)&&((t.args.map Part.ex++t.qK.map Part.cl++t.qQ.map Part.pr).flatMap pre).all (U0 A))=_;rw[QQ,QQ,List.all_append,List.all_append,V,G3]
 unfold ZmF;rw[j,e];by_cases W:t.op=4
 .have⟨s,ZYJ⟩:=hA t (Yy _) W
  have hlt:((t.qK.map Part.cl).flatMap pre).length<(pre (.pr t)).length:=by
   rw[Qe];show _<((t.args.map Part.ex++t.qK.map Part.cl++t.qQ.map Part.pr).flatMap pre).length+1;rw[QQ,QQ,K1,K1];omega
  have hw:=Q t.qK nx1 l3 (fun c I=>⟨S.kid (YP I),ZTd _ (Yf (YP I) (Yy _))⟩) V6 (fun x m=>by
   have⟨k,B,m⟩:=G0.1 m;obtain⟨c,I,rfl⟩:=Ge.1 B;exact q x (Yf (YP I) m) (by have:=Jm m;have:=ZY (YP I);omega)) F T
  rw[W,ZYJ];simp only[Int.reduceBEq,Cq1,Bq0,Q1,Gk];cases A t.qK;.rfl
  show(Zzc F nx1 t.qK).bind _=_;rw[show Zzc F nx1 t.qK=_ from hw,Bq0];cases ((t.qK.map Part.cl).flatMap pre).all (U0 A)<;>rfl
 have K:(t.op==4)=false:=by simpa using W
 have X:t.qK=[]:=by
  have:=KB.1 D _ (Yy _);have E:Zff t=true:=this;unfold Zff szs at E;rw[K]at E
  have:t.qK.length=0:=by
   revert E;cases t.op==1<;>cases t.op==7<;>cases t.op==2<;>cases t.op==3<;>cases t.op==5<;>cases X:t.qK.length==0<;>simp_all
  exact Gd this
 rw[K,X];simp
def DTC{F:Nat}(h:10^19<=F)(A:U Za->Z):∀n,n<=F->DT F A n:=by
 have l:∀n,DC F A n:=fun n=>by
  induction n using Nat.strongRecOn with|_ n ih=>exact ZKI h A ih
 intro n;induction n with|zero=>intro _ t m _ _ hn;have:=Y7 (.pr t);omega|succ n ih=>intro hn;exact ZKH h A V6 (ih V6) (l n)
def ZZR(n:Nat):decide ((n:Int)>12)= !decide (n<=12):=by
 by_cases z:n<=12;.rw[decide_eq_true z,decide_eq_false V6];rfl
 rw[decide_eq_false z,decide_eq_true V6];rfl
def ZAR{F:Nat}(q:10^19<=F)(A:U Za->Z)(t:Term)(h:Lo (.pr t))(p:(pre (.pr t)).length<=F)(r:(pre (.pr t)).length<=60->(pre (.pr t)).all UF=true->∀x,Part.pr x∈pre (.pr t)->x.op=4->∃s,Zom F x.qK=some (s,A x.qK)):Zq5 F t=some (bif J9 A (.pr t) then 0 else 2):=by
 unfold Zq5;rw[ZCc q t h p,Bq0];unfold J9;by_cases l:(pre (.pr t)).length<=60
 .rw[decide_eq_true l];have h:Sm (.pr t):=⟨by unfold BS;omega,h⟩;simp[Q1,Cq0,G3];rw[ZB6 q t h,Bq0];have⟨r1,r2,_,_⟩:=ZGm (.pr t);simp[out,r1];cases m:(pre (.pr t)).all UF;.rfl
  have⟨_,r3⟩:=r2 m;rw[r3,ZZR];simp[Q1,Gk,G3,Bool.not_not];cases decide (dep (.pr t)<=12);.rfl
  simp[gd,Cq1,G3];rw[show ZI3 F t=_ from DTC q A _ V6 t h m (r l m) V7 F V6,Bq0];cases (pre (.pr t)).all (U0 A)<;>rfl
 rw[decide_eq_false l];rfl
abbrev Spt:=Y×U Za
def XZ(c:Za):U Spt:=bif c.qV==2 then(c.qJ,c.qK)::c.qK.attach.flatMap (fun d=>XZ d.1) else []
termination_by SizeOf.sizeOf c
decreasing_by
 have⟨fm,tx,js,ds,ks⟩:=c;have:=List.sizeOf_lt_of_mem d.2;simp[Za.mk.sizeOf_spec]at this ⊢;omega
def Wh(c:Za):XZ c=bif c.qV==2 then(c.qJ,c.qK)::c.qK.flatMap XZ else []:=by rw[XZ,Wx c.qK XZ]
def XQ(l:U Za):U Y:=(l.flatMap XZ).map (·.1)
def ev(a:Nat)(m:ZU):Y×Ye:=(m.qJ,Ye.mk (a:Int) (m.names.length:Int))
def jns(l:U Za):U ZU:=l.flatMap (·.qG)
def evJ:Nat->U Spt->U (Y×Ye)
 | _,[]=>[]
 | a,sp::r=>(jns sp.2).map (ev a)++evJ (a+1) r
def upd(f:Y->O Ye)(e:Y×Ye):Y->O Ye:=fun x=>if x=e.1 then some e.2 else f x
def okE(f:Y->O Ye)(e:Y×Ye):Z:= !(f e.1).isSome||UY ((f e.1).getD ⟨0,0⟩) e.2
def JW(f:Y->O Ye):U (Y×Ye)->Z
 | []=>true
 | e::r=>okE f e&&JW (upd f e) r
def Zaf(h:Y->Z):U Y->Z
 | []=>true
 | x::xs=>!h x&&Zaf (fun s=>h s||decide (s=x)) xs
def ZpR(a b:U (Y×Ye)):∀f,JW f (a++b)=(JW f a&&JW (a.foldl upd f) b):=by induction a with|nil=>intro f;simp[JW]|cons e a ih=>intro f;simp[Gx,JW,ih,Gh,Bool.and_assoc]
def ZsH(a b:U Y):∀h,Zaf h (a++b)=(Zaf h a&&Zaf (fun s=>h s||decide (s∈a)) b):=by
 induction a with|nil=>intro f;simp[Zaf]|cons e a ih=>
   intro h;simp only[Gx,Zaf,ih,Bool.and_assoc];congr 2
   have:(fun s=>(h s||decide (s=e))||decide (s∈a))=fun s=>h s||decide (s∈e::a):=by
    funext s;by_cases h1:s=e<;>by_cases h2:s∈a<;>simp[h1,h2]
   rw[this]
def eqS(x y:Ye):UY x y=true↔x=y:=by have⟨a,b⟩:=x;have⟨c,d⟩:=y;simp[UY]
def AgW(l:U Za):Z:=Zaf (fun _=>false) (XQ l)&&JW (fun _=>none) (evJ 0 ((E0,l)::l.flatMap XZ)) && !((evJ 0 ((E0,l)::l.flatMap XZ)).any fun e=>decide (e.1∈XQ l))
def OkC(c:Za):Prop:=c.qG.length<=3/\(c.qV=1\/c.qV=2/\c.qG=[])
def OkS(sp:Spt):Prop:=sp.2.length<=60/\∀c∈sp.2,OkC c
def ZbI{c:Za}(h:U9 c=true):OkC c:=by
 unfold U9 at h;rw[Ba0]at h;have⟨_,h⟩:=h;by_cases l:c.qV=2;.rw[l]at h;simp only[Int.reduceBEq,Cq1,Ba0,beq_iff_eq,decide_eq_true_eq]at h;have:c.qG=[]:=Gd h.1.2;exact⟨by rw[this];simp,.inr ⟨l,this⟩⟩
 have:(c.qV==2)=false:=by simpa using l
 rw[this]at h;simp only[Cq0,Ba0,beq_iff_eq,decide_eq_true_eq]at h;exact⟨h.1.2,.inl h.1.1.1.1.1⟩
def ZHn:∀n (c:Za),(pre (.cl c)).length<=n->(XZ c).length<=(pre (.cl c)).length:=by
 intro n
 induction n with|zero=>intro c h;have:=Y7 (.cl c);omega|succ n ih=>
   intro c hn;rw[Wh];have r:=Qe (.cl c)
   have h1:((Ya (.cl c)).flatMap pre).length=((c.qK.map Part.cl).flatMap pre).length+((c.qQ.map Part.pr).flatMap pre).length:=by
    show((c.qK.map Part.cl++c.qQ.map Part.pr).flatMap pre).length=_;rw[QQ,K1]
   have:∀l:U Za,(∀d∈l,(XZ d).length<=(pre (.cl d)).length)->(l.flatMap XZ).length<=((l.map Part.cl).flatMap pre).length:=by
    intro l
    induction l with|nil=>simp|cons d l m=>
      intro h;have a:=h d Vd;have b:=m fun x p=>h x (Kx _ p);simp only[Kf,JT,K1];omega
   have h2:=this c.qK fun d q=>ih d (by have:=ZY (Yw q);omega);cases c.qV==2;.show 0<=_;omega
   show(c.qK.flatMap XZ).length+1<=_;omega
def ZCo(l:U Za):(l.flatMap XZ).length<=((l.map Part.cl).flatMap pre).length:=by induction l with|nil=>simp|cons d l h=>simp only[Kf,JT,K1];have:=ZHn _ d V7;omega
def Zcu{c:Za}(h:c∈l):(XZ c).length<=(l.flatMap XZ).length:=by
 induction l with|nil=>cases h|cons x l ih=>
   rw[Kf,K1];rcases Ks.1 h with rfl|h
   .omega
   have:=ih h;omega
def ZbD(l:U Za):l.length<=((l.map Part.cl).flatMap pre).length:=by have:=Ww (l.map Part.cl);simpa using this
def ZHs:∀n (c:Za),(pre (.cl c)).length<=n->n<=60->(pre (.cl c)).all UF=true->∀sp∈XZ c,OkS sp:=by
 intro n
 induction n with|zero=>intro c h;have:=Y7 (.cl c);omega|succ n ih=>
   intro c hn x q sp l;rw[Wh]at l;cases r:c.qV==2;.rw[r]at l;cases l
   rw[r]at l;simp only[Cq1]at l
   have p:∀d∈c.qK,(pre (.cl d)).all UF=true:=fun d p=>by
    rw[KB]at q ⊢;exact fun y t=>q y (Yf (Yw p) t)
   rcases Ks.1 l with rfl|l
   .refine⟨?_,fun d m=>ZbI ?_⟩;.have:=Uv (.cl c);simp only[Ya,K1,QP]at this;show c.qK.length<=60;omega
    exact KB.1 (p d m) _ (Yy _)
   have⟨d,m,l⟩:=G0.1 l;exact ih d (by have:=ZY (Yw m);omega) V6 (p d m) sp l
def ZlK{A y:Type}{body:y->(y->O β)->O β}(r:Nat->q->y)(l:U A)(Pre:Nat->U A->q->Prop)(h:Nat->U A->q->O β)
 (I:∀s t,Pre l.length [] s->body (r l.length s) t=h l.length [] s)
 (h1:∀(k:Nat) x rest s t,x∈l->k<l.length->Z7 l (k:Int)=some x->Pre k (x::rest) s->(∀s',Pre (k+1) rest s'->t (r (k+1) s')=h (k+1) rest s')->body (r k s) t=h k (x::rest) s) {F:Nat} (D:l.length<F) (s:q) (p:Pre 0 l s):loop F body (r 0 s)=h 0 l s:=by
 have B:∀(d j F:Nat)(s:q),j+d=l.length->d<F->Pre j (l.drop j) s->loop F body (r j s)=h j (l.drop j) s:=by
  intro d;induction d with
  | zero=>
    intro j F s E D p;obtain⟨F,rfl⟩:∃G,F=G+1:=⟨F-1,by omega⟩;obtain rfl:j=l.length:=V6;rw[List.drop_length]at p ⊢;rw[ZV,I _ _ p]
  | succ d ih=>
    intro j F s E D p;obtain⟨F,rfl⟩:∃G,F=G+1:=⟨F-1,by omega⟩;have m:j<l.length:=V6;rw[List.drop_eq_getElem_cons m]at p ⊢;rw[ZV];exact h1 j _ _ s _ (GG m) m (QY m) p fun s' C=>ih (j+1) F s' V6 V6 C
 have:=B l.length 0 F s V6 D (by simpa using p);simpa using this
abbrev MM:=U (Y×Ye)
abbrev MN:=U (Y×Z)
abbrev SS:=Nat×MM×MN
def Zde:MM->U (Y×Ye)->O MM
 | m,[]=>some m
 | m,e::r=>bif okE (ZQ m) e then Zde (Xh m e.1 e.2) r else none
def ZsZ(a b:U (Y×Ye)):∀m,Zde m (a++b)=(Zde m a).bind fun x=>Zde x b:=by
 induction a with|nil=>intro m;rfl|cons e a ih=>
   intro m;simp[Gx,Zde];cases okE (ZQ m) e;.rfl
   exact ih _
def Zfm(s:SS)(sp:Spt):O SS:=bif decide (0<s.1)&&has s.2.2 sp.1 then none else(Zde s.2.1 ((jns sp.2).map (ev s.1))).map fun m=>(s.1+1,m,bif decide (0<s.1) then Xh s.2.2 sp.1 true else s.2.2)
def ZfP:SS->U Spt->O SS
 | s,[]=>some s
 | s,x::r=>(Zfm s x).bind fun s=>ZfP s r
def Zsv(a b:U Spt):∀s,ZfP s (a++b)=(ZfP s a).bind fun x=>ZfP x b:=by
 induction a with|nil=>intro m;rfl|cons e a ih=>
   intro s;simp[Gx,ZfP];cases Zfm s e with|none=>rfl|some s'=>exact ih _
def ZCa{s s':SS}{x:Spt}(h:Zfm s x=some s'):s'.1=s.1+1:=by
 unfold Zfm at h;cases l:(decide (0<s.1)&&has s.2.2 x.1) with|true=>rw[l]at h;cases h|false=>
   rw[l]at h;simp[Cq0,Option.map_eq_some_iff]at h;obtain⟨m,_,rfl⟩:=h;rfl
def ZxT:∀{l:U Spt}{s s':SS},ZfP s l=some s'->s'.1=s.1+l.length
 | [],s,s',h=>by cases h;rfl
 | x::r,s,s',h=>by
   obtain⟨s1,h1,h2⟩:=bS (by exact h);have:=ZCa h1;have:=ZxT h2;simp[Kd];omega
def Zxx:O SS->PR (Z×Int×MM×MN)
 | some s=>.ok (true,(s.1:Int),s.2.1,s.2.2)
 | none=>.Yq 2
def Zv4{F:Nat}(A:10^19<=F)(a:Nat)(i:Int)(l:Int×MM->O (PR (Z×Int×MM×MN)))(x:Za)(p:x.qG.length<=BB)(m:MM):
 loop F (ZhW (a:Int) i l x) (0,m)=opt (Zde m (x.qG.map (ev a))) (some (.Yq 2)) fun m=>l (Xa (i+1),m):=by
 unfold BB at p;refine Z8 (fun(k:Nat)(m:MM)=>((k:Int),m)) x.qG (fun _ _=>True) (fun rest m=>opt (Zde m (rest.map (ev a))) (some (.Yq 2)) fun m=>l (Xa (i+1),m)) ?_ ?_ V6 m trivial;.intro s h _;simp only[ZhW,ZI,Cq0];rfl
 intro j y rest s h t q r _ ih;simp only[ZhW,ZO q,Cq1,r,Bq0,ZCs,Ui,Zg1];rw[Qj V6];simp only[ih _ trivial,JT,Zde,okE,ev];cases (!(ZQ s y.qJ).isSome||UY ((ZQ s y.qJ).getD ⟨0,0⟩) ⟨(a:Int),(y.names.length:Int)⟩)<;>rfl
def ZvL{F:Nat}(E:10^19<=F)(l h:U Za)(a:Nat)(G:a<=2000)(r:Y×(U Za)×Int×MM×MN->O (PR (Z×Int×MM×MN)))(q:MN)(B:h.length<=BB)(A:∀x∈h,x.qG.length<=BB)(m:MM):
 loop F (ZhX F l (a:Int) r h q) (0,m)=opt (Zde m ((jns h).map (ev a))) (some (.Yq 2)) fun m=>loop F (ZcN l r) (0,((a+1:Nat):Int),m,q):=by
 unfold BB at B;refine Z8 (fun(k:Nat)(m:MM)=>((k:Int),m)) h (fun _ _=>True) (fun rest m=>opt (Zde m ((jns rest).map (ev a))) (some (.Yq 2)) fun m=>loop F (ZcN l r) (0,((a+1:Nat):Int),m,q)) ?_ ?_ V6 m trivial;.intro s p _;simp only[ZhX,ZI,Cq0,Q1];rw[Qj V6];rfl
 intro j y rest s p t C D _ ih;simp only[ZhX,ZO C,Cq1,D,Bq0,Zv4 E a _ _ y (A y t)];rw[Qj V6];simp only[ih _ trivial,jns,Kf,GQ,ZsZ];cases Zde s (y.qG.map (ev a))<;>rfl
def ZlP(h:∀c∈l,OkC c):jns (l.filter fun c=>c.qV==1)=jns l:=by
 induction l with|nil=>rfl|cons c l ih=>
   have i:=ih fun d m=>h d (Kx _ m);obtain⟨_,h1|⟨h2,p⟩⟩:=h c Vd;.rw[List.filter_cons_of_pos (by simp[h1])];unfold jns at i ⊢;rw[Kf,Kf,i]
   rw[List.filter_cons_of_neg (by simp[h2]),i];unfold jns;rw[Kf,p,Jx]
def ZBc{F:Nat}(hF:10^19<=F):∀n (q:Y) (l:U Za) (s:SS),(l.flatMap XZ).length<=n->OkS (q,l)->(∀sp∈l.flatMap XZ,OkS sp)->s.1+(l.flatMap XZ).length<=1000->∀Fr,n<Fr ->
 loop Fr (ZbB F) (q,l,(s.1:Int),s.2.1,s.2.2)=some (Zxx (ZfP s ((q,l)::l.flatMap XZ))):=by
 intro n
 induction n using Nat.strongRecOn with|_ n ih=>
   intro q l s hn K Zs9 hs1 Fr hFr;obtain⟨G,rfl⟩:∃G,Fr=G+1:=⟨Fr-1,by omega⟩;rw[ZV]
   have C:∀c∈l,c.qV=2->∀s:SS,s.1+(XZ c).length<=1001->loop G (ZbB F) (c.qJ,c.qK,(s.1:Int),s.2.1,s.2.2)=some (Zxx (ZfP s (XZ c))):=fun c t E s D=>by
    have e:XZ c=(c.qJ,c.qK)::c.qK.flatMap XZ:=by rw[Wh,E];rfl
    have B:(XZ c).length<=(l.flatMap XZ).length:=Zcu t;have L:∀sp∈XZ c,OkS sp:=fun sp r=>Zs9 sp (G0.2 ⟨c,t,r⟩);rw[e]at B L D ⊢;simp only[Kd]at B D;exact ih (n-1) V6 c.qJ c.qK s V6 (L _ Vd) (fun sp r=>L sp (by simp[r])) V6 G V6
   generalize loop G (ZbB F)=n1 at C;have⟨hl,hoc⟩:=K;dsimp only at hl hoc
   have T:∀s:SS,s.1+(l.flatMap XZ).length<=1001->0<s.1->loop F (ZcN l n1) (0,(s.1:Int),s.2.1,s.2.2)=some (Zxx (ZfP s (l.flatMap XZ))):=fun s D h0=>by
    refine Z8 (fun(k:Nat)(s:SS)=>((k:Int),(s.1:Int),s.2.1,s.2.2)) l (fun rest s=>s.1+(rest.flatMap XZ).length<=1001) (fun rest s=>some (Zxx (ZfP s (rest.flatMap XZ)))) ?_ ?_ V6 s D;.intro s I _;simp only[ZcN,ZI,Cq0];rfl
    intro k c rest s I t P S A h;simp only[ZcN,ZO P,Cq1,S,Bq0];rw[Qj V6];rw[Kf,K1]at A;rw[Kf,Zsv];rcases(hoc c t).2 with h1|⟨h2,_⟩
    .rw[h1];have e:XZ c=[]:=by rw[Wh,h1];rfl
     rw[e]at A ⊢;exact h s (by simpa using A)
    rw[h2];have V:1<=(XZ c).length:=by rw[Wh,h2];simp
    simp only[Int.reduceBEq,Cq1];rw[C c t h2 s V6,Bq0];cases hr:ZfP s (XZ c) with|none=>rfl|some s'=>
      have:=ZxT hr;exact h s' V6
   have Q:∀y,(ZbC F l (s.1:Int) s.2.1 n1 (l.filter fun c=>c.qV==1)) y=some (Zxx ((Zde s.2.1 ((jns l).map (ev s.1))).bind fun m=>ZfP (s.1+1,m,y) (l.flatMap XZ))):=fun y=>by
    unfold ZbC;have hfl:(l.filter fun c=>c.qV==1).length<=l.length:=List.length_filter_le _ _;rw[ZvL hF l _ s.1 V6 n1 y (by unfold BB;omega) (fun x X=>by have:=(hoc x (List.mem_filter.1 X).1).1;unfold BB;omega) s.2.1,ZlP hoc];cases Zde s.2.1 ((jns l).map (ev s.1)) with|none=>rfl|some m=>exact T (s.1+1,m,y) (by show s.1+1+_<=1001;omega) (Nat.succ_pos _)
   unfold ZbB;have:=Z8 (body:=ZhY F q l (s.1:Int) s.2.1 s.2.2 n1) (fun(k:Nat)(a:U Za)=>((k:Int),a)) l (fun rest a=>a.length+rest.length<=60) (fun rest a=>(bif decide ((s.1:Int)>0) then(Zkq s.2.2 q false).bind fun ZBM=>(Uy (!ZBM)).bind fun ZBL=>UJ ZBL (fun W=>some (.Yq 2)) (fun ZRK=>(ZbC F l (s.1:Int) s.2.1 n1 (a++rest.filter fun c=>c.qV==1)) (Xh s.2.2 q true)) else(ZbC F l (s.1:Int) s.2.1 n1 (a++rest.filter fun c=>c.qV==1)) s.2.2)) (F:=F) ?_ ?_ V6 [] (by simpa using hl)
   .refine this.trans ?_;simp only[Jx,ZdF,Bq0,Ui,Zg1,Q,gt0];show _=some (Zxx ((Zfm s (q,l)).bind fun s=>ZfP s (l.flatMap XZ)));unfold Zfm;cases decide (0<s.1);.simp only[Cq0,Gp];cases Zde s.2.1 ((jns l).map (ev s.1))<;>rfl
    simp only[Cq1,G3];cases has s.2.2 q;.simp only[G9,Cq1,Cq0];cases Zde s.2.1 ((jns l).map (ev s.1))<;>rfl
    rfl
   .intro a I _;simp only[ZhY,ZI,Cq0,List.filter_nil,G8]
   intro k c rest a I t P S A h;simp only[Kd]at A;simp only[ZhY,ZO P,Cq1,S,Bq0,ZhV];rw[Qj V6];cases E:c.qV==1;.rw[List.filter_cons_of_neg (by simp[E])];exact h a V6
   rw[List.filter_cons_of_pos (p:=fun c:Za=>c.qV==1) E];simp only[Cq1];rw[app1 V6 V6,Bq0,h _ Vf,Q4];rfl
def Zn5(m:MM)(l:U (Y×Ye)):MM:=l.foldl (fun m e=>Xh m e.1 e.2) m
def Zfq(m:MM)(e:Y×Ye):ZQ (Xh m e.1 e.2)=upd (ZQ m) e:=by funext x;rw[ZaN];rfl
def ZiQ(l:U (Y×Ye)):∀m,ZQ (Zn5 m l)=l.foldl upd (ZQ m):=by
 induction l with|nil=>intro m;rfl|cons e l ih=>
   intro m;show ZQ (Zn5 (Xh m e.1 e.2) l)=_;rw[ih,Zfq];rfl
def Zyl(l:U (Y×Ye)):∀m,Zde m l=bif JW (ZQ m) l then some (Zn5 m l) else none:=by
 induction l with|nil=>intro m;rfl|cons e l ih=>
   intro m;simp[Zde,JW,ih,Zfq];cases okE (ZQ m) e<;>rfl
def ZjX(a b:U (Y×Ye))(m:MM):Zn5 m (a++b)=Zn5 (Zn5 m a) b:=GE
def ZHj(l:U Spt):∀a,0<a->∀m h,ZfP (a,m,h) l=bif Zaf (has h) (l.map (·.1))&&JW (ZQ m) (evJ a l) then some (a+l.length,Zn5 m (evJ a l),Zae h (l.map (·.1))) else none:=by
 induction l with|nil=>intro a p m h;rfl|cons x l ih=>
   intro a p m h;show(Zfm (a,m,h) x).bind _=_;unfold Zfm;simp only[decide_eq_true p,G3,JT,Zaf,evJ,ZpR,Zyl,<-ZiQ,Cq1];cases has h x.1
   .simp only[Cq0,G9,G3];cases JW (ZQ m) ((jns x.2).map (ev a));.simp
    simp only[Cq1,Option.map_some,Bq0,G3];rw[ih (a+1) V6,Zb9,ZjX];have:Zae h (x.1::l.map (·.1))=Zae (Xh h x.1 true) (l.map (·.1)):=rfl;rw[this,Kd,show a+1+l.length=a+(l.length+1) by omega]
   rfl
def Zzp{r:Type}(m:U (Y×r))(g:Y->Z):(m.any fun e=>g e.1)=true↔∃k,(ZQ m k).isSome=true/\g k=true:=by
 rw[GR];constructor
 .rintro⟨e,he,p⟩;refine⟨e.1,?_,p⟩;cases h:ZQ m e.1 with|some v=>rfl|none=>
    unfold ZQ at h;have:Yt m e.1=none:=by cases t:Yt m e.1 with|none=>rfl|some q=>rw[t]at h;cases h
    exact absurd rfl (Zf5.1 this e he)
 rintro⟨k,l,p⟩;cases h:Yt m k with|none=>unfold ZQ at l;rw[h]at l;cases l|some q=>exact⟨(k,q.2),List.mem_of_getElem? (Zcy h),p⟩
def ZBZ(l:U (Y×Ye)):∀f x,(l.foldl upd f x).isSome=((f x).isSome||l.any fun e=>decide (x=e.1)):=by
 induction l with|nil=>intro f x;simp|cons e l ih=>
   intro f x;rw[Gh,ih,List.any_cons];unfold upd;by_cases h:x=e.1;.simp[h]
   simp[h]
def ZFX(l:U (Y×Ye))(g:Y->Z):((Zn5 [] l).any fun e=>g e.1)=l.any fun e=>g e.1:=by
 rw[Gu,Zzp];simp only[ZiQ,ZBZ];rw[GR];constructor
 .rintro⟨k,h,m⟩;have:(l.any fun e=>decide (k=e.1))=true:=by simpa[ZQ,Yt]using h
  have⟨e,he,hk⟩:=GR.1 this;rw[decide_eq_true_eq]at hk;exact⟨e,he,by rw[<-hk];exact m⟩
 rintro⟨e,he,m⟩;refine⟨e.1,?_,m⟩;rw[GM];right;exact GR.2 ⟨e,he,by simp⟩
def ZAh{m:Type}(b:Y->m->O Z)(g:Y->Z)(h:∀k v,b k v=some (g k))(l:U (Y×m)):ZoZ b l=some (l.any fun e=>g e.1):=by induction l with|nil=>rfl|cons e l ih=>simp[ZoZ,h,ih,Bq0,List.any_cons]
def Zxl{F:Nat}(hF:10^19<=F)(l:U Za)(hl:OkS (E0,l))(hs:∀sp∈l.flatMap XZ,OkS sp)(hn:(l.flatMap XZ).length<=60):ZfA F l=some (bif AgW l then .ok () else .Yq 2):=by
 unfold ZfA;have:=ZBc hF _ E0 l (0,[],[]) V7 hl hs (by show 0+_<=1000;omega) F V6;have e:loop F (ZbB F) (E0,l,0,[],[])=_:=this;rw[e,Bq0]
 have e2:ZfP (0,[],[]) ((E0,l)::l.flatMap XZ)=bif JW (fun _=>none) (evJ 0 ((E0,l)::l.flatMap XZ))&&Zaf (fun _=>false) (XQ l) then some (1+(l.flatMap XZ).length,Zn5 [] (evJ 0 ((E0,l)::l.flatMap XZ)),Zae [] (XQ l)) else none:=by
  show(Zfm (0,[],[]) (E0,l)).bind _=_;unfold Zfm;have h0:(ZQ ([]:MM))=fun _=>none:=by funext x;rfl
  simp only[Nat.lt_irrefl,decide_false,Gp,Cq0,evJ,ZpR,Zyl,h0];have hm:JW ((List.map (ev 0) (jns l)).foldl upd fun _=>none) (evJ (0+1) (l.flatMap XZ))=JW (ZQ (Zn5 [] ((jns l).map (ev 0)))) (evJ (0+1) (l.flatMap XZ)):=by rw[ZiQ,h0]
  rw[hm];cases JW (fun _=>none) ((jns l).map (ev 0));·simp
  simp only[Cq1,Option.map_some,Bq0,G3];rw[ZHj _ (0+1) V6,ZqR,ZjX,Bool.and_comm];rfl
 rw[e2];unfold AgW;rw[Bool.and_comm (JW _ _)];cases Zaf (fun _=>false) (XQ l)&&JW (fun _=>none) (evJ 0 ((E0,l)::l.flatMap XZ));·rfl
 simp only[Cq1,G3,Zxx,UJ];unfold ZkN;dsimp only
 rw[ZAh _ (has (Zae [] (XQ l))) (fun k v=>by
  simp only[Zrg,ZdF,Bq0,Ui,Zg1];cases has (Zae [] (XQ l)) k<;>rfl),Bq0,ZFX,ZlW,ZqR]
 simp only[Gk];cases ((evJ 0 ((E0,l)::l.flatMap XZ)).any fun e=>decide (e.1∈XQ l))<;>rfl
def ZCx(c:Za)(l:U Za):XQ (c::l)=(XZ c).map (·.1)++XQ l:=by unfold XQ;rw[Kf,GQ]
def ZSk(h l:U Y)(x:Y):(fun s=>decide (s∈h++[x]++l))=fun s=>(decide (s∈h)||decide (s=x))||decide (s∈l):=by funext s;by_cases h1:s∈h<;>by_cases h2:s=x<;>by_cases m:s∈l<;>simp[h1,h2,m]
def ZoX{F:Nat}(hF:10^19<=F):∀n (l:U Za) (s:X9),(l.flatMap XZ).length<=n->l.length<=60->(∀sp∈l.flatMap XZ,OkS sp)->s.places.length+(l.flatMap XZ).length<=1000->∀Fr,n<Fr ->
 loop Fr (Zgo F) (s,l)=some ⟨s.channels,s.many,s.at_,s.places++XQ l,s.bad || !Zaf (fun x=>decide (x∈s.places)) (XQ l)⟩:=by
 intro n
 induction n using Nat.strongRecOn with|_ n ih=>
   intro l s hn hl Zs9 E Fr V;obtain⟨G,rfl⟩:∃G,Fr=G+1:=⟨Fr-1,by omega⟩;rw[ZV]
   have y:∀c∈l,c.qV=2->∀s:X9,s.places.length+(XZ c).length<=1001->loop G (Zgo F) (s,c.qK)=some ⟨s.channels,s.many,s.at_,s.places++XQ c.qK,s.bad || !Zaf (fun x=>decide (x∈s.places)) (XQ c.qK)⟩:=fun c B r s P=>by
    have e:XZ c=(c.qJ,c.qK)::c.qK.flatMap XZ:=by rw[Wh,r];rfl
    have t:(XZ c).length<=(l.flatMap XZ).length:=Zcu B;have I:∀sp∈XZ c,OkS sp:=fun sp q=>Zs9 sp (G0.2 ⟨c,B,q⟩);rw[e]at t I P;simp only[Kd]at t P;exact ih (n-1) V6 c.qK s V6 (I (c.qJ,c.qK) Vd).1 (fun sp q=>I sp (by simp[q])) V6 G V6
   generalize loop G (Zgo F)=n1 at y;unfold Zgo;refine Z8 (body:=ZhQ F l n1) (fun(k:Nat)(p:U Y×Z)=>((k:Int),s.channels,s.many,s.at_,p.1,p.2)) l (fun rest p=>p.1.length+(rest.flatMap XZ).length<=1000) (fun rest p=>some ⟨s.channels,s.many,s.at_,p.1++XQ rest,p.2 || !Zaf (fun x=>decide (x∈p.1)) (XQ rest)⟩) (F:=F) ?_ ?_ V6 (s.places,s.bad) E;.intro p L _;simp only[ZhQ,ZI,Cq0,XQ,List.flatMap_nil,GT,G8,Zaf,Q1,Bool.or_false]
   intro k c rest p L B S T A m;have⟨pl,bad⟩:=p;dsimp only at A m ⊢;rw[Kf,K1]at A;simp only[ZhQ,ZO S,Cq1,T,Bq0,ZhP];rw[Qj V6,ZCx];by_cases r:c.qV=2
   .have e:XZ c=(c.qJ,c.qK)::c.qK.flatMap XZ:=by rw[Wh,r];rfl
    have e':(XZ c).map (·.1)=c.qJ::XQ c.qK:=by rw[e];rfl
    rw[e'];have Q:(XZ c).length=(c.qK.flatMap XZ).length+1:=by rw[e];rfl
    rw[r,show((2:Int)==2)=true from rfl];simp only[Cq1];rw[app1 V6 V6]
    have K:∀(k:Z->O X9),((gd (!bad) (some c) default).bind fun D=>(gd (!bad) (ZbM F pl D.qJ) default).bind fun C=>k (bad||C))=k (bad||decide (c.qJ∈pl)):=fun k=>by
     cases bad;.simp only[G9,ZcG,Bq0];rw[has_eq F pl c.qJ V6 V6];rfl
     rfl
    have h2:=y c B r ⟨s.channels,s.many,s.at_,pl++[c.qJ],bad||decide (c.qJ∈pl)⟩ Vf;refine(K (fun b=>(n1 (⟨s.channels,s.many,s.at_,pl++[c.qJ],b⟩,c.qK)).bind fun h=>L (((k+1:Nat):Int),h.channels,h.many,h.at_,h.places,h.bad))).trans ?_;rw[h2,Bq0];refine(m (pl++[c.qJ]++XQ c.qK,_) ?_).trans ?_;.show(pl++[c.qJ]++XQ c.qK).length+_<=1000;simp only[K1,XQ,QP,GK];omega
    dsimp only
    have W:Zaf (fun x=>decide (x∈pl)) (c.qJ::XQ c.qK++XQ rest)=(!decide (c.qJ∈pl)&&(Zaf (fun s=>decide (s∈pl)||decide (s=c.qJ)) (XQ c.qK)&&Zaf (fun s=>(decide (s∈pl)||decide (s=c.qJ))||decide (s∈XQ c.qK)) (XQ rest))):=by
     rw[Gx];show(_&&Zaf _ _)=_;rw[ZsH]
    rw[W,ZSk,ZNf];have X:pl++[c.qJ]++XQ c.qK++XQ rest=pl++(c.qJ::XQ c.qK++XQ rest):=by simp
    rw[X];cases bad<;>cases decide (c.qJ∈pl)<;>cases Zaf (fun s=>decide (s∈pl)||decide (s=c.qJ)) (XQ c.qK)<;>simp
   have e:XZ c=[]:=by
    rw[Wh,show(c.qV==2)=false by simpa using r];rfl
   rw[show(c.qV==2)=false by simpa using r,e];rw[e]at A;simp only[Cq0,GT,Jx];exact m (pl,bad) (by simpa using A)
def ZWq{m:Type}{l:U m}{x:m}(h:l.length<=900000):app 24 l [x]=some (l++[x]):=app1 h V6
def ZoM{F:Nat}(Q:10^19<=F):∀n (l:U Za) (out:U (U Za)),(l.flatMap XZ).length<=n->l.length<=60->(∀sp∈l.flatMap XZ,OkS sp)->out.length+(l.flatMap XZ).length<=1000->∀Fr,n<Fr ->
 loop Fr (Zgl F) (out,l)=some (out++(l.flatMap XZ).map (·.2)):=by
 intro n
 induction n using Nat.strongRecOn with|_ n ih=>
   intro l out hn P Zs9 y Fr L;obtain⟨G,rfl⟩:∃G,Fr=G+1:=⟨Fr-1,by omega⟩;rw[ZV]
   have t:∀c∈l,c.qV=2->∀o:U (U Za),o.length+(XZ c).length<=1001->loop G (Zgl F) (o,c.qK)=some (o++(c.qK.flatMap XZ).map (·.2)):=fun c x m s C=>by
    have e:XZ c=(c.qJ,c.qK)::c.qK.flatMap XZ:=by rw[Wh,m];rfl
    have r:(XZ c).length<=(l.flatMap XZ).length:=Zcu x;have B:∀sp∈XZ c,OkS sp:=fun sp h=>Zs9 sp (G0.2 ⟨c,x,h⟩);rw[e]at r B C;simp only[Kd]at r C;exact ih (n-1) V6 c.qK s V6 (B (c.qJ,c.qK) Vd).1 (fun sp h=>B sp (by simp[h])) V6 G V6
   generalize loop G (Zgl F)=n1 at t;unfold Zgl;refine Z8 (body:=Zhz l n1) (fun(k:Nat)(p:U (U Za))=>(p,(k:Int))) l (fun rest p=>p.length+(rest.flatMap XZ).length<=1000) (fun rest p=>some (p++(rest.flatMap XZ).map (·.2))) (F:=F) ?_ ?_ V6 out y;.intro p E _;simp only[Zhz,ZI,Cq0];simp
   intro k c rest p E x I K A q;rw[Kf,K1]at A;simp only[Zhz,ZO I,Cq1,K,Bq0,Zhy];rw[Qj V6,Kf];by_cases m:c.qV=2
   .have e:XZ c=(c.qJ,c.qK)::c.qK.flatMap XZ:=by rw[Wh,m];rfl
    have D:(XZ c).length=(c.qK.flatMap XZ).length+1:=by rw[e];rfl
    rw[m,show((2:Int)==2)=true from rfl];simp only[Cq1];rw[ZWq V6,Bq0,t c x m _ (by simp only[K1,QP,GK];omega),Bq0,q _ (by simp only[K1,QP,GK];omega),e];simp
   have e:XZ c=[]:=by
    rw[Wh,show(c.qV==2)=false by simpa using m];rfl
   rw[show(c.qV==2)=false by simpa using m,e];rw[e]at A;simp only[Cq0,Jx];exact q p (by simpa using A)
abbrev RJ:=MM×Z
def rj(s:RJ)(e:Y×Ye):RJ:=match ZQ s.1 e.1 with|none=>(s.1++[e],s.2)|some w=>(s.1,s.2||w.many !=e.2.many||w.at_ !=e.2.at_)
def Uq(h:U Y)(s:RJ):X9:=⟨s.1.map (·.1),s.1.map (·.2.many),s.1.map (·.2.at_),h,s.2⟩
def ZCj(s:RJ)(e:Y×Ye):(rj s e).1.length<=s.1.length+1:=by unfold rj;cases ZQ s.1 e.1<;>simp
def ZkA(l:U (Y×Ye)):∀s:RJ,(l.foldl rj s).1.length<=s.1.length+l.length:=by induction l with|nil=>intro s;simp|cons e l ih=>intro s;rw[Gh];have:=ih (rj s e);have:=ZCj s e;simp[Kd];omega
def Zo1(m:MM)(e:Y×Ye)(h:ZQ m e.1=none):ZQ (m++[e])=upd (ZQ m) e:=by
 funext x;unfold upd;by_cases l:x=e.1;.rw[if_pos l,l,KE h];simp[ZQ,Yt]
 rw[if_neg l];cases p:ZQ m x with|some v=>exact Zb2 p|none=>rw[KE p];simp[ZQ,Yt];exact fun z=>l z.symm
def ZM0(l:U (Y×Ye)):∀s:RJ,(l.foldl rj s).2=(s.2 || !JW (ZQ s.1) l)/\∀x,(ZQ (l.foldl rj s).1 x).isSome=((ZQ s.1 x).isSome||l.any fun e=>decide (x=e.1)):=by
 induction l with|nil=>intro s;simp[JW]|cons e l ih=>
   intro s;have⟨m,b⟩:=s;rw[Gh];have⟨i1,i2⟩:=ih (rj (m,b) e);rw[i1];cases h:ZQ m e.1 with
   | none=>
     have q:rj (m,b) e=(m++[e],b):=by unfold rj;rw[h]
     rw[q]at i2 ⊢;refine⟨?_,fun x=>?_⟩;.simp only[JW,okE,h,Zo1 m e h];rfl
     rw[i2 x,Zo1 m e h,List.any_cons];unfold upd;by_cases p:x=e.1;.simp[p]
     simp[p]
   | some w=>
     have q:rj (m,b) e=(m,b||w.many !=e.2.many||w.at_ !=e.2.at_):=by unfold rj;rw[h]
     rw[q]at i2 ⊢;refine⟨?_,fun x=>?_⟩
     .simp only[JW,okE,h,Option.getD_some,Option.isSome_some,Q1,Gk];by_cases hw:w=e.2
      .have hu:upd (ZQ m) e=ZQ m:=by
        funext x;unfold upd;by_cases p:x=e.1;.rw[if_pos p,p,h,hw]
        rw[if_neg p]
       rw[hu,(eqS w e.2).2 hw,hw];simp
      have:UY w e.2=false:=by
       cases r:UY w e.2;.rfl
       exact absurd ((eqS w e.2).1 r) hw
      rw[this]
      have:(w.many !=e.2.many||w.at_ !=e.2.at_)=true:=by
       have⟨wa,L⟩:=w;have⟨t,ea,em⟩:=e;by_cases h1:L=em;.have:wa≠ea:=fun h2=>hw (by rw[h1,h2]);simp[this]
       simp[h1]
      rw[Bool.or_assoc b,this];simp
     rw[i2 x,List.any_cons];by_cases p:x=e.1;.rw[p,h];simp
     simp[p]
def ZdR{m:Type}{l:U m}{k:Nat}{x:m}(f:m->β)(h:Z7 l (k:Int)=some x):Z7 (l.map f) (k:Int)=some (f x):=by rw[ZdQ]at h ⊢;rw[GD,h];rfl
def join_one{F:Nat}(C:10^19<=F)(l:U Y)(s:RJ)(m:ZU)(a:Nat)(r:s.1.length<=800000):Zza F (Uq l s) m (a:Int)=some (Uq l (rj s (ev a m))):=by
 have⟨tr,b⟩:=s;have:=Z8 (body:=ZhO (Uq l (tr,b)) m (a:Int)) (fun(k:Nat)(_:Unit)=>(k:Int)) tr (fun _ _=>True) (fun rest _=>some (match ZQ rest m.qJ with|none=>Uq l (tr++[ev a m],b)|some w=>Uq l (tr,b||w.many !=(m.names.length:Int)||w.at_ !=(a:Int)))) (F:=F) ?_ ?_ (by dsimp only at r;omega) () trivial;.refine this.trans ?_;unfold rj;show some (match ZQ tr m.qJ with|none=>_|some w=>_)=some (Uq l (match ZQ tr m.qJ with|none=>_|some w=>_));cases ZQ tr m.qJ<;>rfl
 .intro _ y _;have e:(((Uq l (tr,b)).channels.length:Nat):Int)=((tr.length:Nat):Int):=by simp[Uq]
  simp only[ZhO,e,ZI,Cq0,Uq];dsimp only at r;rw[app1 (by rw[QP];omega) V6,Bq0,app1 (by rw[QP];omega) V6,Bq0,app1 (by rw[QP];omega) V6,Bq0];simp[ZQ,Yt,ev]
 intro k x rest _ y B A t _ p;have e:(((Uq l (tr,b)).channels.length:Nat):Int)=((tr.length:Nat):Int):=by simp[Uq]
 simp only[ZhO,e,ZO A,Cq1];simp only[Uq];rw[ZdR (·.1) t,Bq0]
 have q:ZQ (x::rest) m.qJ=if x.1=m.qJ then some x.2 else ZQ rest m.qJ:=by
  unfold ZQ;rw[Yt];by_cases h:x.1=m.qJ;.simp[h]
  simp only[h,if_false];cases Yt rest m.qJ<;>rfl
 rw[q];dsimp only at r;by_cases h:x.1=m.qJ
 .rw[decide_eq_true h,if_pos h,Cq1,ZdR (fun e:Y×Ye=>e.2.many) t,ZdR (fun e:Y×Ye=>e.2.at_) t];cases b;.simp only[G9,ZcG,Bq0,Gk];cases x.2.many !=(m.names.length:Int)<;>rfl
  rfl
 rw[decide_eq_false h,if_neg h,Cq0,Qj V6];exact p () trivial
def stJ(h:U Y)(s:RJ):(U Y)×(U Int)×(U Int)×(U Y)×Z:=(s.1.map (·.1),s.1.map (·.2.many),s.1.map (·.2.at_),h,s.2)
def ZvZ{F:Nat}(A:10^19<=F)(h:U Y)(all:U (U Za))(cl:U Za)(i j:Nat)(c:Za)(r:Z7 all (i:Int)=some cl)(q:Z7 cl (j:Int)=some c)(D:c.qG.length<=3)(l:Int×(U Y)×(U Int)×(U Int)×(U Y)×Z->O (X9×Z))(s:RJ)(B:s.1.length<=100000):
 loop F (Zja F all (i:Int) (j:Int) l) (0,stJ h s)=l (Xa ((j:Int)+1),stJ h ((c.qG.map (ev i)).foldl rj s)):=by
 refine Z8 (body:=Zja F all (i:Int) (j:Int) l) (fun(k:Nat)(s:RJ)=>((k:Int),stJ h s)) c.qG (fun rest s=>s.1.length+rest.length<=200000) (fun rest s=>l (Xa ((j:Int)+1),stJ h ((rest.map (ev i)).foldl rj s))) (F:=F) ?_ ?_ V6 s V6;.intro s p _;simp only[Zja,r,q,Bq0,stJ,ZI,Cq0];rfl
 intro k m rest s p C x y t ih;simp only[Kd]at t;simp only[Zja,r,q,Bq0,stJ,ZO x,Cq1,y];have:=join_one A h s m i V6;unfold Uq at this;rw[this,Bq0,Qj V6];exact ih (rj s (ev i m)) (by have:=ZCj s (ev i m);omega)
def ZvY{F:Nat}(A:10^19<=F)(h:U Y)(all:U (U Za))(cl:U Za)(i:Nat)(p:Z7 all (i:Int)=some cl)(D:cl.length<=60)(y:∀c∈cl,c.qG.length<=3)(m:Int×(U Y)×(U Int)×(U Int)×(U Y)×Z->O (X9×Z))(s:RJ)(C:s.1.length<=50000):
 loop F (Zjb F all (i:Int) m) (0,stJ h s)=m (Xa ((i:Int)+1),stJ h (((jns cl).map (ev i)).foldl rj s)):=by
 refine Z8 (body:=Zjb F all (i:Int) m) (fun(k:Nat)(s:RJ)=>((k:Int),stJ h s)) cl (fun rest s=>s.1.length+3*rest.length<=60000) (fun rest s=>m (Xa ((i:Int)+1),stJ h (((jns rest).map (ev i)).foldl rj s))) (F:=F) ?_ ?_ V6 s V6;.intro s l _;simp only[Zjb,p,Bq0,stJ,ZI,Cq0];rfl
 intro k c rest s l r t x q ih;simp only[Kd]at q;have B:=y c r;simp only[Zjb,p,Bq0,stJ,ZO t,Cq1];have:=ZvZ A h all cl i k c p x B l s V6;unfold stJ at this;rw[this,Qj V6];refine(ih _ ?_).trans ?_;.have:=ZkA (c.qG.map (ev i)) s;rw[QP]at this;omega
 unfold jns;rw[Kf,GQ,GE];rfl
def ZsU{F:Nat}(D:10^19<=F)(p:U Y)(m:U Spt)(hn:m.length<=61)(r:∀sp∈m,OkS sp)(b:Z):
 loop F (Zjc F (m.map (·.2))) (0,[],[],[],p,b)=loop F (ZdX F (((evJ 0 m).foldl rj ([],b)).1.map (·.1)) (((evJ 0 m).foldl rj ([],b)).1.map (·.2.many)) (((evJ 0 m).foldl rj ([],b)).1.map (·.2.at_)) p) (0,((evJ 0 m).foldl rj ([],b)).2):=by
 have:=ZlK (body:=Zjc F (m.map (·.2))) (fun(k:Nat)(s:RJ)=>((k:Int),stJ p s)) m (fun _ rest s=>s.1.length+180*rest.length<=12000) (fun k rest s=>loop F (ZdX F (((evJ k rest).foldl rj s).1.map (·.1)) (((evJ k rest).foldl rj s).1.map (·.2.many)) (((evJ k rest).foldl rj s).1.map (·.2.at_)) p) (0,((evJ k rest).foldl rj s).2)) (F:=F) ?_ ?_ V6 ([],b) Vf;.exact this
 .intro s q _;have e:(((m.map (·.2)).length:Nat):Int)=(m.length:Int):=by simp
  simp only[Zjc,e,stJ,ZI,Cq0];rfl
 intro k sp rest s q x y A t ih;simp only[Kd]at t;have e:(((m.map (·.2)).length:Nat):Int)=(m.length:Int):=by simp
 have⟨h1,h2⟩:=r sp x;simp only[Zjc,e,stJ,ZO y,Cq1];have:=ZvY D p (m.map (·.2)) sp.2 k (ZdR (·.2) A) h1 (fun c C=>(h2 c C).1) q s V6;unfold stJ at this;rw[this,Qj V6]
 have E:(jns sp.2).length<=3*sp.2.length:=by
  have:∀l:U Za,(∀c∈l,OkC c)->(jns l).length<=3*l.length:=by
   intro l
   induction l with|nil=>intro _;simp[jns]|cons c l ih=>
     intro h;have a:=ih fun d B=>h d (Kx _ B);have b:=(h c Vd).1;unfold jns at a ⊢;rw[Kf,K1,Kd];omega
  exact this _ h2
 refine(ih _ ?_).trans ?_;.have:=ZkA ((jns sp.2).map (ev k)) s;rw[QP]at this;omega
 simp only[evJ,GE]
def ZsT{F:Nat}(y:10^19<=F)(h:U Y)(m:h.length<=1000)(s:RJ)(t:s.1.length<=100000):
 loop F (ZdX F (s.1.map (·.1)) (s.1.map (·.2.many)) (s.1.map (·.2.at_)) h) (0,s.2)=some (Uq h (s.1,s.2||s.1.any fun e=>decide (e.1∈h)),!(s.2||s.1.any fun e=>decide (e.1∈h))):=by
 refine Z8 (body:=ZdX F (s.1.map (·.1)) (s.1.map (·.2.many)) (s.1.map (·.2.at_)) h) (fun(k:Nat)(b:Z)=>((k:Int),b)) s.1 (fun _ _=>True) (fun rest b=>some (Uq h (s.1,b||rest.any fun e=>decide (e.1∈h)),!(b||rest.any fun e=>decide (e.1∈h)))) (F:=F) ?_ ?_ V6 s.2 trivial
 .intro b l _;have e:(((s.1.map (·.1)).length:Nat):Int)=(s.1.length:Int):=by simp
  simp only[ZdX,e,ZI,Cq0];simp[Uq]
 intro k x rest b l r p q _ ih;have e:(((s.1.map (·.1)).length:Nat):Int)=(s.1.length:Int):=by simp
 simp only[ZdX,e,ZO p,Cq1,ZdR (·.1) q];rw[Qj V6,List.any_cons];cases b;.simp only[G9,ZcG,Bq0,Gk];rw[has_eq F h x.1 V6 V6,Bq0];exact ih _ trivial
 exact ih true trivial
def ZVF{s:X9}{a b:Z}(h:a=b):∃s',some (s,a)=some (s',b):=⟨s,by rw[h]⟩
def ZBb{F:Nat}(t:10^19<=F)(l:U Za)(A:OkS (E0,l))(y:∀sp∈l.flatMap XZ,OkS sp)(hn:(l.flatMap XZ).length<=60):∃s,Zom F l=some (s,AgW l):=by
 have h1:Zzb F (X9.mk [] [] [] [] false) l=_:=ZoX t _ l ⟨[],[],[],[],false⟩ V7 A.1 y (by show 0+_<=1000;omega) F V6;have h2:ZyS F [l] l=_:=ZoM t _ l [l] V7 A.1 y (by show 1+_<=1000;omega) F V6;unfold Zom Zuh;rw[h1,Bq0,h2];simp only[Bq0,Jx,Gk,Q2,decide_false];have m: [l]++(l.flatMap XZ).map (·.2)=((E0,l)::l.flatMap XZ).map (·.2):=rfl
 have p:∀sp∈(E0,l)::l.flatMap XZ,OkS sp:=fun sp m=>by
  rcases Ks.1 m with rfl|h
  .exact A
  exact y sp h
 have C:(evJ 0 ((E0,l)::l.flatMap XZ)).length<=20000:=by
  have:∀(q:U Spt)(a:Nat),(∀sp∈q,OkS sp)->(evJ a q).length<=180*q.length:=by
   intro q
   induction q with|nil=>intro a _;simp[evJ]|cons sp r ih=>
     intro a h;have i:=ih (a+1) fun x D=>h x (Kx _ D);have⟨h1,h2⟩:=h sp Vd
     have I:∀l:U Za,(∀c∈l,OkC c)->(jns l).length<=3*l.length:=by
      intro l
      induction l with|nil=>intro _;simp[jns]|cons c l ih=>
        intro h;have a:=ih fun d K=>h d (Kx _ K);have b:=(h c Vd).1;unfold jns at a ⊢;rw[Kf,K1,Kd];omega
     have:=I sp.2 h2;simp only[evJ,K1,QP,Kd];omega
  have:=this _ 0 p;simp only[Kd]at this;omega
 have G:(XQ l).length<=60:=by unfold XQ;rw[QP];exact hn
 rw[m,ZsU t _ _ (by simp only[Kd];omega) p];have E:=ZkA (evJ 0 ((E0,l)::l.flatMap XZ)) ([],!Zaf (fun _=>false) (XQ l));rw[ZsT t _ V6 _ (by simp only[GF]at E;omega)];have⟨r1,r2⟩:=ZM0 (evJ 0 ((E0,l)::l.flatMap XZ)) ([],!Zaf (fun _=>false) (XQ l))
 have L:(((evJ 0 ((E0,l)::l.flatMap XZ)).foldl rj ([],!Zaf (fun _=>false) (XQ l))).1.any fun e=>decide (e.1∈XQ l))=(evJ 0 ((E0,l)::l.flatMap XZ)).any fun e=>decide (e.1∈XQ l):=by
  rw[Gu,Zzp _ (fun x=>decide (x∈XQ l))];simp only[r2];rw[GR];constructor
  .rintro⟨k,h,B⟩;have:((evJ 0 ((E0,l)::l.flatMap XZ)).any fun e=>decide (k=e.1))=true:=by simpa[ZQ,Yt]using h
   have⟨e,he,hk⟩:=GR.1 this;rw[decide_eq_true_eq]at hk;exact⟨e,he,by rw[<-hk];exact B⟩
  rintro⟨e,he,B⟩;refine⟨e.1,?_,B⟩;rw[GM];right;exact GR.2 ⟨e,he,by simp⟩
 have P:(ZQ ([]:MM))=fun _=>none:=by funext x;rfl
 rw[L,r1];refine ZVF ?_;unfold AgW;rw[P];cases Zaf (fun _=>false) (XQ l)<;>cases JW (fun _=>none) (evJ 0 ((E0,l)::l.flatMap XZ))<;>simp
def ZeK{p:Part}(C:(pre p).length<=60)(r:(pre p).all UF=true){x:Term}(q:Part.pr x∈pre p):OkS (E0,x.qK)/\(∀sp∈x.qK.flatMap XZ,OkS sp)/\(x.qK.flatMap XZ).length<=60:=by
 have B:=Jm q
 have t:((x.qK.map Part.cl).flatMap pre).length<=(pre (.pr x)).length:=by
  rw[Qe];show _<=((x.args.map Part.ex++x.qK.map Part.cl++x.qQ.map Part.pr).flatMap pre).length+1;rw[QQ,QQ,K1,K1];omega
 have m:∀c∈x.qK,(pre (.cl c)).all UF=true:=fun c m=>by
  rw[KB]at r ⊢;exact fun y A=>r y (Jt (Yf (YP m) A) q)
 have h1:=ZbD x.qK;have h2:=ZCo x.qK;refine⟨⟨by show x.qK.length<=60;omega,fun c h=>ZbI (KB.1 (m c h) _ (Yy _))⟩,fun sp l=>?_,by omega⟩;have⟨c,h,l⟩:=G0.1 l;exact ZHs 60 c (by have:=ZY (YP h);omega) V6 (m c h) sp l
def ZrD{F:Nat}(p:10^19<=F)(t:Term)(r:Lo (.pr t))(l:(pre (.pr t)).length<=F):Zq6 F t=some (bif J9 AgW (.pr t) then 0 else 2):=
 ZwX p AgW t r l fun m h x q _=>by have⟨a,b,c⟩:=ZeK m h q;exact Zxl p x.qK a b c
def ZrC{F:Nat}(p:10^19<=F)(t:Term)(r:Lo (.pr t))(l:(pre (.pr t)).length<=F):Zq5 F t=some (bif J9 AgW (.pr t) then 0 else 2):=
 ZAR p AgW t r l fun m h x q _=>by have⟨a,b,c⟩:=ZeK m h q;exact ZBb p x.qK a b c
def Kb{p:Part}(h:J9 AgW p=true):(pre p).all UF=true/\(pre p).length<=60:=by unfold J9 at h;simp only[Ba0,decide_eq_true_eq]at h;exact⟨h.1.1.2,h.1.1.1⟩
abbrev CH:=U Y×MN
def dj(s:CH)(t:Y):CH:=bif has s.2 t then s else(s.1++[t],Xh s.2 t true)
def ZQc(s:CH)(t:Y):(dj s t).1.length<=s.1.length+1:=by unfold dj;cases has s.2 t<;>simp
def Zrx(l:U Y):∀s:CH,(l.foldl dj s).1.length<=s.1.length+l.length:=by induction l with|nil=>intro s;simp|cons t l ih=>intro s;rw[Gh];have:=ih (dj s t);have:=ZQc s t;simp[Kd];omega
structure DS where
 c:CH
 pl:List ByteArray
 at_:Nat
def UU(s:DS)(sp:Spt):DS:=⟨((jns sp.2).map (·.qJ)).foldl dj s.c,bif decide (0<s.at_) then s.pl++[sp.1] else s.pl,s.at_+1⟩
abbrev RD:=Z×(U Y)×(U Y)×Int×MN
def ZAa(s:DS):RD:=(true,s.c.1,s.pl,(s.at_:Int),s.c.2)
def ZuD{F:Nat}(C:10^19<=F)(i:Int)(h:Int×(U Y)×MN->O RD)(x:Za)(A:x.qG.length<=3)(s:CH)(B:s.1.length<=100000):
 loop F (Zjd i h x) (0,s.1,s.2)=h (Xa (i+1),((x.qG.map (·.qJ)).foldl dj s).1,((x.qG.map (·.qJ)).foldl dj s).2):=by
 refine Z8 (body:=Zjd i h x) (fun(k:Nat)(s:CH)=>((k:Int),s.1,s.2)) x.qG (fun rest s=>s.1.length+rest.length<=200000) (fun rest s=>h (Xa (i+1),((rest.map (·.qJ)).foldl dj s).1,((rest.map (·.qJ)).foldl dj s).2)) (F:=F) ?_ ?_ V6 s V6;.intro s l _;simp only[Zjd,ZI,Cq0];rfl
 intro j y rest s l t q r p ih;simp only[Kd]at p;simp only[Zjd,ZmA,ZO q,Cq1,r,Bq0,ZdF];rw[Qj V6,app1 V6 V6];simp only[Bq0,JT,Gh];cases m:has s.2 y.qJ
 .have e:dj s y.qJ=(s.1++[y.qJ],Xh s.2 y.qJ true):=by unfold dj;rw[m];rfl
  rw[e];exact ih (s.1++[y.qJ],Xh s.2 y.qJ true) Vf
 have e:dj s y.qJ=s:=by unfold dj;rw[m];rfl
 rw[e];exact ih s V6
def Zuz{F:Nat}(D:10^19<=F)(l h:U Za)(a:Nat)(K:a<=2000)(p:Y×(U Za)×(U Y)×(U Y)×Int×MN->O RD)(m:U Y)(I:h.length<=60)(t:∀x∈h,x.qG.length<=3)(s:CH)(G:s.1.length<=50000):
 loop F (Zje F l (a:Int) p h m) (0,s.1,s.2)=loop F (Zd0 l p) (0,((a+1:Nat):Int),(((jns h).map (·.qJ)).foldl dj s).1,m,(((jns h).map (·.qJ)).foldl dj s).2):=by
 refine Z8 (body:=Zje F l (a:Int) p h m) (fun(k:Nat)(s:CH)=>((k:Int),s.1,s.2)) h (fun rest s=>s.1.length+3*rest.length<=60000) (fun rest s=>loop F (Zd0 l p) (0,((a+1:Nat):Int),(((jns rest).map (·.qJ)).foldl dj s).1,m,(((jns rest).map (·.qJ)).foldl dj s).2)) (F:=F) ?_ ?_ V6 s V6;.intro s q _;simp only[Zje,ZI,Cq0,Q1];rw[Qj V6];rfl
 intro j y rest s q r B C A ih;simp only[Kd]at A;have E:=t y r;simp only[Zje,ZO B,Cq1,C,Bq0];rw[ZuD D _ _ y E s V6,Qj V6];refine(ih ((y.qG.map (·.qJ)).foldl dj s) ?_).trans ?_;.have:=Zrx (y.qG.map (·.qJ)) s;rw[QP]at this;omega
 unfold jns;rw[Kf,GQ,GE]
def Zqy(h:∀c∈l,OkC c):(jns l).length<=3*l.length:=by
 induction l with|nil=>simp[jns]|cons c l ih=>
   have a:=ih fun d m=>h d (Kx _ m);have b:=(h c Vd).1;unfold jns at a ⊢;rw[Kf,K1,Kd];omega
def Zz0(s:DS){sp:Spt}(h:OkS sp):(UU s sp).c.1.length<=s.c.1.length+180/\(UU s sp).pl.length<=s.pl.length+1/\(UU s sp).at_=s.at_+1:=by
 have⟨h1,h2⟩:=h;refine⟨?_,?_,rfl⟩;.have:=Zrx ((jns sp.2).map (·.qJ)) s.c;have:=Zqy h2;rw[QP]at *;show((jns sp.2).map (·.qJ) |>.foldl dj s.c).1.length<=_;omega
 unfold UU;cases decide (0<s.at_)<;>simp
def Zi2:∀(l:U Spt)(s:DS),(∀sp∈l,OkS sp)->(l.foldl UU s).c.1.length<=s.c.1.length+180*l.length/\(l.foldl UU s).pl.length<=s.pl.length+l.length/\(l.foldl UU s).at_=s.at_+l.length
 | [],s,_=>by simp
 | sp::l,s,h=>by
   have a:=Zz0 s (h sp Vd);have b:=Zi2 l (UU s sp) fun x m=>h x (Kx _ m)
   rw[Gh];simp[Kd];omega
def Zzt(s:DS)(n:Nat):Prop:=s.c.1.length+180*n<=20000/\s.pl.length+n<=1000/\s.at_+n<=1000
def ZJU{F:Nat}(hF:10^19<=F):∀n (q:Y) (l:U Za) (s:DS),(l.flatMap XZ).length<=n->OkS (q,l)->(∀sp∈l.flatMap XZ,OkS sp)->Zzt s ((l.flatMap XZ).length+1)->∀Fr,n<Fr ->
 loop Fr (ZdY F) (q,l,s.c.1,s.pl,(s.at_:Int),s.c.2)=some (ZAa (((q,l)::l.flatMap XZ).foldl UU s)):=by
 intro n
 induction n using Nat.strongRecOn with|_ n ih=>
   intro q l s hn A Zs9 L Fr hFr;obtain⟨G,rfl⟩:∃G,Fr=G+1:=⟨Fr-1,by omega⟩;rw[ZV]
   have D:∀c∈l,c.qV=2->∀s:DS,Zzt s (XZ c).length->loop G (ZdY F) (c.qJ,c.qK,s.c.1,s.pl,(s.at_:Int),s.c.2)=some (ZAa ((XZ c).foldl UU s)):=fun c r I s y=>by
    have e:XZ c=(c.qJ,c.qK)::c.qK.flatMap XZ:=by rw[Wh,I];rfl
    have B:(XZ c).length<=(l.flatMap XZ).length:=Zcu r;have P:∀sp∈XZ c,OkS sp:=fun sp m=>Zs9 sp (G0.2 ⟨c,r,m⟩);rw[e]at B P y ⊢;simp only[Kd]at B y;exact ih (n-1) V6 c.qJ c.qK s V6 (P _ Vd) (fun sp m=>P sp (by simp[m])) y G V6
   generalize loop G (ZdY F)=n1 at D;have W:=A;have⟨hl,hoc⟩:=A;dsimp only at hl hoc;have⟨r1,r2,r3⟩:=L
   have V:∀s:DS,Zzt s (l.flatMap XZ).length->loop F (Zd0 l n1) (0,(s.at_:Int),s.c.1,s.pl,s.c.2)=some (ZAa ((l.flatMap XZ).foldl UU s)):=fun s y=>by
    refine Z8 (body:=Zd0 l n1) (fun(k:Nat)(s:DS)=>((k:Int),(s.at_:Int),s.c.1,s.pl,s.c.2)) l (fun rest s=>Zzt s (rest.flatMap XZ).length) (fun rest s=>some (ZAa ((rest.flatMap XZ).foldl UU s))) (F:=F) ?_ ?_ V6 s y;.intro s K _;simp only[Zd0,ZI,Cq0];rfl
    intro k c rest s K r Q S E h;simp only[Zd0,ZO Q,Cq1,S,Bq0];rw[Qj V6];rw[Kf,K1]at E;rw[Kf,GE];have⟨p1,p2,p3⟩:=E;rcases(hoc c r).2 with h1|⟨h2,_⟩
    .have e:XZ c=[]:=by rw[Wh,h1];rfl
     rw[h1];rw[e]at p1 p2 p3 ⊢;simp only[GF,G6]at p1 p2 p3;exact h s ⟨p1,p2,p3⟩
    rw[h2];simp only[Int.reduceBEq,Cq1];rw[D c r h2 s ⟨by omega,by omega,by omega⟩,Bq0];have T:=Zi2 (XZ c) s fun sp m=>Zs9 sp (G0.2 ⟨c,r,m⟩);exact h ((XZ c).foldl UU s) ⟨by omega,by omega,by omega⟩
   have C:∀t:U Y,t.length+(l.flatMap XZ).length<=1000->(ZdZ F l s.c.1 (s.at_:Int) s.c.2 n1 (l.filter fun c=>c.qV==1)) t=some (ZAa ((l.flatMap XZ).foldl UU ⟨((jns l).map (·.qJ)).foldl dj s.c,t,s.at_+1⟩)):=fun t hpl=>by
    unfold ZdZ;have T:(l.filter fun c=>c.qV==1).length<=l.length:=List.length_filter_le _ _;rw[Zuz hF l _ s.at_ V6 n1 t V6 (fun x X=>(hoc x (List.mem_filter.1 X).1).1) s.c V6,ZlP hoc];have h1:=Zrx ((jns l).map (·.qJ)) s.c;have h2:=Zqy hoc;rw[QP]at h1;exact V ⟨((jns l).map (·.qJ)).foldl dj s.c,t,s.at_+1⟩ ⟨by dsimp only;omega,by dsimp only;omega,by dsimp only;omega⟩
   unfold ZdY;dsimp only;have:=Z8 (body:=ZmC F q l s.c.1 s.pl (s.at_:Int) s.c.2 n1) (fun(k:Nat)(a:U Za)=>((k:Int),a)) l (fun rest a=>a.length+rest.length<=60) (fun rest a=>(bif decide ((s.at_:Int)>0) then(app 16 s.pl [q]).bind fun ZBE=>(ZdZ F l s.c.1 (s.at_:Int) s.c.2 n1 (a++rest.filter fun c=>c.qV==1)) ZBE else(ZdZ F l s.c.1 (s.at_:Int) s.c.2 n1 (a++rest.filter fun c=>c.qV==1)) s.pl)) (F:=F) ?_ ?_ V6 [] (by simpa using hl);.refine this.trans ?_;rw[app1 (l:=s.pl) (x:=q) V6 V6];simp only[Jx,Bq0,gt0];rw[C s.pl V6,C (s.pl++[q]) (by simp only[K1,GK];omega)];show _=some (ZAa ((l.flatMap XZ).foldl UU (UU s (q,l))));unfold UU;cases decide (0<s.at_)<;>rfl
   .intro a K _;simp only[ZmC,ZI,Cq0,List.filter_nil,G8]
   intro k c rest a K r Q S E h;simp only[Kd]at E;simp only[ZmC,ZO Q,Cq1,S,Bq0,ZmB];rw[Qj V6];cases I:c.qV==1;.rw[List.filter_cons_of_neg (by simp[I])];exact h a V6
   rw[List.filter_cons_of_pos (p:=fun c:Za=>c.qV==1) I];simp only[Cq1];rw[app1 V6 V6,Bq0,h _ Vf,Q4];rfl
def ZCY(m:MM)(x:Y):(ZQ m x).isSome=decide (x∈m.map (·.1)):=by
 induction m with|nil=>simp[ZQ,Yt]|cons e m ih=>
   have l:ZQ (e::m) x=if e.1=x then some e.2 else ZQ m x:=by
    unfold ZQ;rw[Yt];by_cases h:e.1=x;.simp[h]
    simp[h,if_false];cases Yt m x<;>rfl
   rw[l];by_cases h:e.1=x;.rw[if_pos h];simp[h]
   rw[if_neg h,ih];have:x≠e.1:=fun z=>h z.symm;simp[this]
def chans(J':U (Y×Ye)):∀(s:RJ)(d:CH),s.1.map (·.1)=d.1->(∀x,has d.2 x=decide (x∈d.1))->(J'.foldl rj s).1.map (·.1)=((J'.map (·.1)).foldl dj d).1:=by
 induction J' with|nil=>intro s d h _;exact h|cons e J' ih=>
   intro s d h m;rw[Gh,JT,Gh];have p:(ZQ s.1 e.1).isSome=has d.2 e.1:=by rw[ZCY,m,h]
   refine ih _ _ ?_ ?_
   .unfold rj dj;cases q:ZQ s.1 e.1 with
    | none=>
      have l:has d.2 e.1=false:=by rw[<-p,q];rfl
      rw[l];simp[h]
    | some w=>
      have l:has d.2 e.1=true:=by rw[<-p,q];rfl
      rw[l];exact h
   intro x;unfold dj;cases l:has d.2 e.1;.simp only[Cq0];rw[Zb9];show(has d.2 x||decide (x=e.1))=decide (x∈d.1++[e.1]);rw[m x];by_cases h1:x∈d.1<;>by_cases h2:x=e.1<;>simp[h1,h2]
   exact m x
def Zpz:∀(l:U Spt)(a:Nat),(evJ a l).map (·.1)=l.flatMap fun sp=>(jns sp.2).map (·.qJ)
 | [],_=>rfl
 | sp::l,a=>by
   simp only[evJ,GQ,List.map_map,Kf,Zpz l (a+1)]
   rfl
def ZqV:∀(l:U Spt)(s:DS),(l.foldl UU s).c=(l.flatMap fun sp=>(jns sp.2).map (·.qJ)).foldl dj s.c
 | [],_=>rfl
 | sp::l,s=>by rw[Gh,ZqV l,Kf,GE];rfl
def ZtQ:∀(l:U Spt)(s:DS),0<s.at_->(l.foldl UU s).pl=s.pl++l.map (·.1)
 | [],s,_=>by simp
 | sp::l,s,h=>by
   rw[Gh,ZtQ l _ (by unfold UU;dsimp only;omega)];unfold UU;rw[decide_eq_true h];simp
def Ue(l:U Za):U Y×U Y:=(((((E0,l)::l.flatMap XZ).flatMap fun sp=>(jns sp.2).map (·.qJ)).foldl dj ([],[])).1,XQ l)
def ZFu{F:Nat}(q:10^19<=F)(l:List Za)(p:OkS (E0,l))(m:∀sp∈l.flatMap XZ,OkS sp)(hn:(l.flatMap XZ).length<=60):ZwH F l=some (Ue l):=by unfold ZwH;have h:=ZJU q _ E0 l ⟨([],[]),[],0⟩ V7 p m ⟨by dsimp only[List.length_nil];omega,by dsimp only[List.length_nil];omega,by dsimp only;omega⟩ F V6;have e:loop F (ZdY F) (E0,l,[],[],0,[])=_:=h;rw[e,Bq0];show some (_,_)=some (Ue l);unfold Ue;rw[ZqV,List.foldl_cons,ZtQ _ _ (Nat.succ_pos _)];rfl
def ZJT{F:Nat}(y:10^19<=F)(l:U Za)(C:OkS (E0,l))(A:∀sp∈l.flatMap XZ,OkS sp)(hn:(l.flatMap XZ).length<=60):∃s b,Zom F l=some (s,b)/\(s.channels,s.places)=Ue l:=by
 have h1:Zzb F (X9.mk [] [] [] [] false) l=_:=ZoX y _ l ⟨[],[],[],[],false⟩ V7 C.1 A (by show 0+_<=1000;omega) F V6;have h2:ZyS F [l] l=_:=ZoM y _ l [l] V7 C.1 A (by show 1+_<=1000;omega) F V6;unfold Zom Zuh;rw[h1,Bq0,h2];simp only[Bq0,Jx,Gk,Q2,decide_false];have m: [l]++(l.flatMap XZ).map (·.2)=((E0,l)::l.flatMap XZ).map (·.2):=rfl
 have p:∀sp∈(E0,l)::l.flatMap XZ,OkS sp:=fun sp m=>by
  rcases Ks.1 m with rfl|h
  .exact C
  exact A sp h
 have q:∀(t:U Spt)(a:Nat),(∀sp∈t,OkS sp)->(evJ a t).length<=180*t.length:=by
  intro t
  induction t with|nil=>intro a _;simp[evJ]|cons sp r ih=>
    intro a h;have i:=ih (a+1) fun x D=>h x (Kx _ D);have⟨h1,h2⟩:=h sp Vd;have:=Zqy h2;simp only[evJ,K1,QP,Kd];omega
 have B:=q _ 0 p;simp only[Kd]at B;have G:(XQ l).length<=60:=by unfold XQ;rw[QP];exact hn
 rw[m,ZsU y _ _ (by simp only[Kd];omega) p];have E:=ZkA (evJ 0 ((E0,l)::l.flatMap XZ)) ([],!Zaf (fun _=>false) (XQ l));rw[ZsT y _ V6 _ (by simp only[GF]at E;omega)];refine⟨_,_,rfl,?_⟩;unfold Uq Ue;rw[chans _ _ ([],[]) rfl (fun x=>rfl),Zpz]
def Zoc:U Y->Y->U Y
 | [],s=>[s]
 | x::l,s=>bif Zk9 x s then x::Zoc l s else s::x::l
def ZiN(out B:U Y)(s:Y):U Y:=if s∈B\/s∈out then out else Zoc out s
def Zqc{l:U Y}{a:Nat}(h:a<=b)(m:b<=l.length):slL l (a:Int) (b:Int)=some ((l.take b).drop a):=by unfold slL;rw[decide_eq_true V6,decide_eq_true V6,decide_eq_true V6];simp
def ZC1{l:U Y}{s x:Y}:x∈Zoc l s↔x=s\/x∈l:=by
 induction l with|nil=>simp[Zoc]|cons y l ih=>
   unfold Zoc;cases Zk9 y s;.simp
   simp[Cq1,Ks,ih];constructor;.rintro(h|h|h)<;>simp[h]
   rintro(h|h|h)<;>simp[h]
def ZDc(l:U Y)(s:Y):(Zoc l s).length=l.length+1:=by
 induction l with|nil=>rfl|cons y l ih=>
   unfold Zoc;cases Zk9 y s;.rfl
   simp[Cq1,Kd,ih]
def put_eq{F:Nat}(Q:10^19<=F)(out B:U Y)(s:Y)(L:out.length<=100000)(S:B.length<=800000):Zpw F out B s=some (ZiN out B s):=by
 unfold Zpw ZiN;rw[has_eq F B s V6 V6,Bq0];by_cases h1:s∈B;.rw[decide_eq_true h1,if_pos (.inl h1)];rfl
 rw[decide_eq_false h1];simp only[G9,ZcG];rw[has_eq F out s V6 V6,Bq0];by_cases h2:s∈out;.rw[decide_eq_true h2,if_pos (.inr h2)];rfl
 rw[decide_eq_false h2,if_neg (by simp[h1,h2])];simp only[Bool.or_false,Cq0]
 have fin:∀k:Nat,k<=out.length->((slL out (k:Int) (out.length:Int)).bind fun r=>(app 16 [s] r).bind fun q=>(slL out 0 (k:Int)).bind fun p=>(app 16 ([]:U Y) p).bind fun m=>(app 16 m q).bind fun l=>some l)=some (out.take k++s::out.drop k):=fun k h=>by
  have D:slL out 0 (k:Int)=some ((out.take k).drop 0):=Zqc (a:=0) (Gq _) h;rw[Zqc h V7,D];simp only[Bq0,List.take_length,List.drop_zero];have I:app 16 [s] (out.drop k)=some ([s]++out.drop k):=XY Vf V6;have G:app 16 ([]:U Y) (out.take k)=some ([]++out.take k):=XY Vf V6;rw[I,G];simp only[Bq0,Jx];have E:app 16 (out.take k) ([s]++out.drop k)=some (out.take k++([s]++out.drop k)):=XY Vf V6;rw[E];rfl
 have:=ZlK (body:=ZhH out s) (fun(k:Nat)(_:Unit)=>(k:Int)) out (fun k rest _=>rest=out.drop k) (fun k rest _=>some (out.take k++Zoc rest s)) (F:=F) ?_ ?_ V6 () Vd;.simpa using this
 .intro _ A _;simp only[ZhH,ZI,ZEo,Bq0,Gp,Cq0];rw[fin _ V7];simp[Zoc]
 intro k x rest _ A K h C t ih;simp only[ZhH,ZO h,ZcG,C,Bq0,G3];have y:out.drop k=out[k]::out.drop (k+1):=List.drop_eq_getElem_cons h;rw[y]at t;obtain⟨rfl,rfl⟩:=List.cons.inj t;rw[Qj V6];unfold Zoc;cases P:Zk9 out[k] s;.simp only[Cq0];rw[fin k V6,y]
 simp only[Cq1];rw[ih () rfl,List.take_succ_eq_append_getElem h,Q4];rfl
def nm1:Part->U Y
 | .ex e=>bif e.op==2 then [e.qJ] else []
 | _=>[]
def nmE(e:Zi):U Y:=(pre (.ex e)).flatMap nm1
def ZvT(e:Zi):nmE e=(bif e.op==2 then [e.qJ] else [])++e.qQ.flatMap nmE:=by unfold nmE;rw[pre_eq,Kf];show nm1 (.ex e)++_=nm1 (.ex e)++_;congr 1;show((e.qQ.map Part.ex).flatMap pre).flatMap nm1=_;rw[List.flatMap_assoc,List.flatMap_map]
def puts(B:U Y)(l:U Y)(out:U Y):U Y:=l.foldl (fun o s=>ZiN o B s) out
def ZgZ(o B:U Y)(s:Y):(ZiN o B s).length<=o.length+1:=by
 unfold ZiN;split;.omega
 rw[ZDc];omega
def Zln(B:U Y):∀(l o:U Y),(puts B l o).length<=o.length+l.length
 | [],o=>by simp[puts]
 | s::l,o=>by
   have:=Zln B l (ZiN o B s);have:=ZgZ o B s;show(puts B l (ZiN o B s)).length<=_;simp[Kd];omega
def Zj0(B a b o:U Y):puts B (a++b) o=puts B b (puts B a o):=GE
def Zqn(e:Zi):(nmE e).length<=(pre (.ex e)).length:=by
 unfold nmE;generalize pre (.ex e)=l
 induction l with|nil=>simp|cons p l ih=>
   rw[Kf,K1,Kd]
   have:(nm1 p).length<=1:=by
    cases p with|ex e=>show(bif e.op==2 then [e.qJ] else []).length<=1;cases e.op==2<;>simp|_=>exact Gq _
   omega
def Zwq{F:Nat}(E:10^19<=F)(B:U Y)(I:B.length<=800000):∀n e (out:U Y),(pre (.ex e)).length<=n->n<=60->out.length+(nmE e).length<=20000->∀Fr,n<=Fr->loop Fr (Zmt F) (out,B,e)=some (puts B (nmE e) out):=by
 intro n
 induction n with|zero=>intro e out hn;have:=Y7 (.ex e);omega|succ n ih=>
   intro e out hn K h Fr D;obtain⟨G,rfl⟩:∃G,Fr=G+1:=⟨Fr-1,by omega⟩;rw[ZV];have l:∀x∈e.qQ,∀o:U Y,o.length+(nmE x).length<=20000->loop G (Zmt F) (o,B,x)=some (puts B (nmE x) o):=fun x p o h=>ih x o (by have:=ZY (Xd p);omega) V6 h G V6;have y:e.qQ.length<(pre (.ex e)).length:=by have:=Uv (.ex e);simpa[Ya]using this
   generalize loop G (Zmt F)=n1 at l
   have q:∀o:U Y,o.length+(e.qQ.flatMap nmE).length<=20000->Zi6 F B e n1 o=some (puts B (e.qQ.flatMap nmE) o):=fun o h=>by
    unfold Zi6;refine Z8 (body:=Zmu B e n1) (fun(k:Nat)(o:U Y)=>(o,(k:Int))) e.qQ (fun rest o=>o.length+(rest.flatMap nmE).length<=20000) (fun rest o=>some (puts B (rest.flatMap nmE) o)) (F:=F) ?_ ?_ V6 o h;.intro o r _;simp only[Zmu,ZI,Cq0];rfl
    intro k x rest o r p A C t m;rw[Kf,K1]at t;simp only[Zmu,ZO A,Cq1,C,Bq0,l x p o V6];rw[Qj V6,Kf,Zj0];exact m _ (by have:=Zln B (nmE x) o;omega)
   rw[ZvT,Zj0];rw[ZvT,K1]at h;unfold Zmt;dsimp only;cases h2:e.op==2<;>rw[h2]at h;.exact q out V6
   simp only[Cq1,GK]at h ⊢;rw[put_eq E out B e.qJ V6 I,Bq0];exact q _ (by have:=ZgZ out B e.qJ;omega)
def Zz(h:U ZU):U Y:=h.flatMap (·.names)
def bnd(t:Term)(B:U Y):U Y:=bif t.op==4 then B++((Ue t.qK).1++(Ue t.qK).2) else B
abbrev Evt:=Y×U Y
def Jy(p:Part)(B:U Y):U Evt:=
 match p with
 | .ex e=>(nmE e).map fun s=>(s,B)
 | .pr t=>(if t.qJ=E0 then [] else [(t.qJ,B)])++((t.args.flatMap nmE).map fun s=>(s,B))++(t.qK.attach.flatMap (fun c=>Jy (.cl c.1) (bnd t B))++t.qQ.attach.flatMap (fun k=>Jy (.pr k.1) (bnd t B)))
 | .cl c=>c.qK.attach.flatMap (fun d=>Jy (.cl d.1) B)++c.qQ.attach.flatMap (fun k=>Jy (.pr k.1) (B++Zz c.qG))
termination_by pz p
decreasing_by
 .exact WW (YP c.2)
 .exact WW (Y0 k.2)
 .exact WW (Yw d.2)
 exact WW (Y5 k.2)
def ZwN(t:Term)(B:U Y):Jy (.pr t) B=(if t.qJ=E0 then [] else [(t.qJ,B)])++((t.args.flatMap nmE).map fun s=>(s,B))++(t.qK.flatMap (fun c=>Jy (.cl c) (bnd t B))++t.qQ.flatMap (fun k=>Jy (.pr k) (bnd t B))):=by rw[Jy,Wx t.qK fun c=>Jy (.cl c) (bnd t B),Wx t.qQ fun k=>Jy (.pr k) (bnd t B)]
def Zrn(c:Za)(B:U Y):Jy (.cl c) B=c.qK.flatMap (fun d=>Jy (.cl d) B)++c.qQ.flatMap (fun k=>Jy (.pr k) (B++Zz c.qG)):=by rw[Jy,Wx c.qK fun d=>Jy (.cl d) B,Wx c.qQ fun k=>Jy (.pr k) (B++Zz c.qG)]
def JQ(l:U Evt)(out:U Y):U Y:=l.foldl (fun o e=>ZiN o e.2 e.1) out
def WQ(a b:U Evt)(o:U Y):JQ (a++b) o=JQ b (JQ a o):=GE
def Zz7(B:U Y)(l:U Y)(o:U Y):JQ (l.map fun s=>(s,B)) o=puts B l o:=by unfold JQ puts;rw[List.foldl_map]
def ZbX:∀(l:U Evt)(o:U Y),(JQ l o).length<=o.length+l.length
 | [],o=>by simp[JQ]
 | e::l,o=>by
   have:=ZbX l (ZiN o e.2 e.1);have:=ZgZ o e.2 e.1;show(JQ l (ZiN o e.2 e.1)).length<=_;simp[Kd];omega
def ZC0{o:U Y}{s x:Y}:x∈ZiN o B s↔x∈o\/(x=s/\s∉B):=by
 unfold ZiN;by_cases h:s∈B\/s∈o
 .rw[if_pos h];constructor;.exact .inl
  rintro(h1|⟨rfl,h1⟩);.exact h1
  rcases h with h|h
  .exact absurd h h1
  exact h
 rw[if_neg h,ZC1];have h1:s∉B:=fun z=>h (.inl z);constructor
 .rintro(h2|h2);.exact .inr ⟨h2,h1⟩
  exact .inl h2
 rintro(h2|⟨h2,_⟩);.exact .inr h2
 exact .inl h2
def Zo2:∀(l:U Evt)(o:U Y)(x:Y),x∈JQ l o↔x∈o\/∃e∈l,x=e.1/\e.1∉e.2
 | [],o,x=>by simp[JQ]
 | e::l,o,x=>by
   show x∈JQ l (ZiN o e.2 e.1)↔_;rw[Zo2 l,ZC0]
   constructor
   .rintro((h|h) | ⟨m,he,h⟩)
    .exact .inl h
    .exact .inr ⟨e,by simp,h⟩
    exact .inr ⟨m,by simp[he],h⟩
   rintro(h|⟨m,he,h⟩)
   .exact .inl (.inl h)
   rcases Ks.1 he with rfl|he
   .exact .inl (.inr h)
   exact .inr ⟨m,he,h⟩
def Zec(r:OkS (E0,l))(q:∀sp∈l.flatMap XZ,OkS sp)(hn:(l.flatMap XZ).length<=60):(Ue l).1.length<=10980/\(Ue l).2.length<=60:=by
 have p:∀sp∈(E0,l)::l.flatMap XZ,OkS sp:=fun sp m=>by
  rcases Ks.1 m with rfl|h
  .exact r
  exact q sp h
 have h:=Zi2 _ ⟨([],[]),[],0⟩ p;rw[ZqV]at h;simp only[Kd,GF]at h;refine⟨?_,by unfold Ue XQ;rw[QP];exact hn⟩;exact KK h.1 V6
def ZuP{F:Nat}(r:10^19<=F)(l:U Za)(m:OkS (E0,l))(h:∀sp∈l.flatMap XZ,OkS sp)(hn:(l.flatMap XZ).length<=60):Zq2 F l=some ((Ue l).1++(Ue l).2):=by
 have⟨s,b,e1,e2⟩:=ZJT r l m h hn;have⟨n1,n2⟩:=Zec m h hn;have q:s.channels=(Ue l).1:=by rw[<-e2]
 have p:s.places=(Ue l).2:=by rw[<-e2]
 unfold Zq2;rw[e1];simp only[Bq0,q,p];have x:app 16 ([]:U Y) (Ue l).1=some ([]++(Ue l).1):=XY Vf V6;have t:app 16 (Ue l).1 (Ue l).2=some ((Ue l).1++(Ue l).2):=XY V6 V6;rw[x,Bq0,Jx,t];rfl
def Zo8{F:Nat}(A:10^19<=F)(l:U ZU)(B:l.length<=3)(hn:∀m∈l,m.names.length<=3):ZmW F l=some (Zz l):=by
 have:=Z8 (body:=ZeW l) (fun(k:Nat)(s:U Y)=>(s,(k:Int))) l (fun rest s=>s.length+3*rest.length<=100) (fun rest s=>some (s++Zz rest)) (F:=F) ?_ ?_ V6 [] Vf;.show loop F (ZeW l) ([],0)=_;simpa using this
 .intro s p _;simp only[ZeW,ZI,Cq0];simp[Zz]
 intro k m rest s p r t x q ih;simp only[Kd]at q;have h:=hn m r;simp only[ZeW,ZO t,Cq1,x,Bq0];have y:app 16 s m.names=some (s++m.names):=XY V6 V6;rw[y,Bq0,Qj V6,ih _ (by rw[K1];omega)];unfold Zz;rw[Kf,Q4]
def Zh5(p:Part):∀B,(Jy p B).length<=(pre p).length:=by
 induction p using ZbY with|h p ih=>
   intro B
   have m:∀{A:Type}(l:U A)(c:A->Part)(B:U Y),(∀x∈l,c x∈Ya p)->(l.flatMap fun x=>Jy (c x) B).length<=((l.map c).flatMap pre).length:=by
    intro A l c B
    induction l with|nil=>intro _;simp|cons x l r=>
      intro h;have a:=ih (c x) (h x Vd) B;have b:=r fun y C=>h y (Kx _ C);simp only[Kf,JT,K1];omega
   cases p with
   | ex e=>rw[Jy,QP];exact Zqn e
   | pr t=>
     rw[ZwN,Qe];have h1:=m t.qK .cl (bnd t B) fun x q=>YP q;have h2:=m t.qQ .pr (bnd t B) fun x q=>Y0 q
     have E:(t.args.flatMap nmE).length<=((t.args.map Part.ex).flatMap pre).length:=by
      generalize t.args=l;induction l with|nil=>simp|cons x l r=>have:=Zqn x;simp only[Kf,JT,K1];omega
     show _<=((t.args.map Part.ex++t.qK.map Part.cl++t.qQ.map Part.pr).flatMap pre).length+1;rw[QQ,QQ];have D:(if t.qJ=E0 then([]:U Evt) else [(t.qJ,B)]).length<=1:=by split<;>simp
     simp only[K1,QP];omega
   | cl c=>
     rw[Zrn,Qe];have h1:=m c.qK .cl B fun x q=>Yw q;have h2:=m c.qQ .pr (B++Zz c.qG) fun x q=>Y5 q;show _<=((c.qK.map Part.cl++c.qQ.map Part.pr).flatMap pre).length+1;rw[QQ];simp only[K1];omega
def Zs0:∀(l:U ZU)(p hn:Y->Z),jW p hn l=true->∀m∈l,m.names.length<=3
 | [],_,_,_,m,h=>by cases h
 | j::l,p,hn,hw,m,h=>by
   unfold jW at hw;simp[Ba0,decide_eq_true_eq]at hw;rcases Ks.1 h with rfl|h
   .exact hw.1.2
   exact Zs0 l _ _ hw.2.2 m h
def Kz{c:Za}(h:U9 c=true):c.qG.length<=3/\(∀m∈c.qG,m.names.length<=3)/\∃k,c.qQ=[k]:=by
 have ok:=ZbI h;unfold U9 at h;rw[Ba0,beq_iff_eq]at h;refine⟨ok.1,?_,?_⟩
 .rcases ok.2 with h1|⟨_,h2⟩
  .have:(c.qV==2)=false:=by rw[h1];rfl
   rw[this]at h;simp[Cq0,Ba0]at h;exact Zs0 _ _ _ h.2.2
  rw[h2];intro m l;cases l
 match hk:c.qQ,h.1 with|[k],_=>exact⟨k,rfl⟩
def OkB(B:U Y)(n:Nat):Prop:=B.length+12000*n<=750000
def RTx(next:U Y×U Y×Term->O (U Y))(t:Term):Prop:=∀o B,o.length+(pre (.pr t)).length<=20000->OkB B (pre (.pr t)).length->next (o,B,t)=some (JQ (Jy (.pr t) B) o)
def RC(F n:Nat):Prop:=∀(c:Za) next,(pre (.cl c)).all UF=true->(pre (.cl c)).length<=n->(∀t,Part.pr t∈pre (.cl c)->RTx next t)->∀Fr,n<=Fr->∀o B,o.length+(pre (.cl c)).length<=20000->OkB B (pre (.cl c)).length->loop Fr (Zgm F next) (o,B,c)=some (JQ (Jy (.cl c) B) o)
def ZKB{F n:Nat}(hF:10^19<=F)(h60:n<=60)(ih:RC F n):RC F (n+1):=by
 intro c next Q hn l Fr hFr o B C hB;obtain⟨G,rfl⟩:∃G,Fr=G+1:=⟨Fr-1,by omega⟩
 rw[ZV];have⟨hj,hjn,k,hk1⟩:=Kz (KB.1 Q _ (Yy _))
 have e:(pre (.cl c)).length=((c.qK.map Part.cl).flatMap pre).length+(pre (.pr k)).length+1:=by
  rw[Qe];show((c.qK.map Part.cl++c.qQ.map Part.pr).flatMap pre).length+1=_;rw[hk1,QQ,K1];simp
 unfold OkB at hB
 have r:∀x∈c.qK,∀o:U Y,o.length+(pre (.cl x)).length<=20000->loop G (Zgm F next) (o,B,x)=some (JQ (Jy (.cl x) B) o):=fun x p o C=>
  ih x next (by rw[KB]at Q ⊢;exact fun y hy=>Q y (Yf (Yw p) hy)) (by have:=ZY (Yw p);omega) (fun t ht=>l t (Yf (Yw p) ht)) G V6 o B C (by have:=ZY (Yw p);unfold OkB;omega)
 generalize loop G (Zgm F next)=X at r;have hcl:=ZbD c.qK;have T:Part.pr k∈pre (.cl c):=Yf (Y5 (by rw[hk1];simp)) (Yy _)
 have A:∀o:U Y,o.length+(pre (.pr k)).length<=20000->((ZmW F c.qG).bind fun K=>(Zi9 B K).bind fun I=>(Z7 c.qQ 0).bind fun E=>(next (o,I,E)).bind fun D=>some D)=some (JQ (Jy (.pr k) (B++Zz c.qG)) o):=fun o C=>by
  have hjl:(Zz c.qG).length<=9:=by
   have:∀q:U ZU,(∀m∈q,m.names.length<=3)->(Zz q).length<=3*q.length:=by
    intro q
    induction q with|nil=>intro _;simp[Zz]|cons m q P=>
      intro h;have a:=h m Vd;have b:=P fun x p=>h x (Kx _ p);unfold Zz at b ⊢;rw[Kf,K1,Kd];omega
   have:=this c.qG hjn;omega
  have V:Zi9 B (Zz c.qG)=some (B++Zz c.qG):=by
   unfold Zi9;have V:app 16 ([]:U Y) B=some ([]++B):=XY Vf V6;have a2:app 16 B (Zz c.qG)=some (B++Zz c.qG):=XY V6 V6;rw[V,Bq0,Jx,a2];rfl
  have g0:Z7 c.qQ 0=some k:=by rw[hk1];rfl
  rw[Zo8 hF c.qG hj hjn,Bq0,V,Bq0,g0,Bq0,l k T o _ C (by unfold OkB;rw[K1];omega)];rfl
 unfold Zgm;have:=Z8 (body:=ZhA F B c next X) (fun(i:Nat)(o:U Y)=>(o,(i:Int))) c.qK (fun rest o=>o.length+((rest.map Part.cl).flatMap pre).length+(pre (.pr k)).length<=20000) (fun rest o=>some (JQ (rest.flatMap (fun d=>Jy (.cl d) B)++Jy (.pr k) (B++Zz c.qG)) o)) (F:=F) ?_ ?_ V6 o V6;.refine this.trans ?_;rw[Zrn,hk1];simp
 .intro o W S;simp only[ZhA,ZI,Cq0];exact A o (by simpa using S)
 intro i x rest o W p hi hg S L;rw[JT,Kf,K1]at S;simp only[ZhA,ZO hi,Cq1,hg,Bq0,r x p o V6];rw[Qj V6,Kf,Q4,WQ];exact L _ (by have:=ZbX (Jy (.cl x) B) o;have:=Zh5 (.cl x) B;omega)
def RT(F n:Nat):Prop:=∀t,(pre (.pr t)).all UF=true->(pre (.pr t)).length<=n->∀Fr,n<=Fr->RTx (loop Fr (Zd6 F)) t
def ZQ5{F:Nat}(l:10^19<=F):∀n,n<=60->RC F n:=by intro n;induction n with|zero=>intro _ c next _ hn;have:=Y7 (.cl c);omega|succ n ih=>intro h;exact ZKB l V6 (ih V6)
def ZKA{F n:Nat}(T:10^19<=F)(h60:n+1<=60)(ih:RT F n):RT F (n+1):=by
 intro t W hn Fr hFr o B r hB;obtain⟨G,rfl⟩:∃G,Fr=G+1:=⟨Fr-1,by omega⟩;rw[ZV]
 have e:(pre (.pr t)).length=((t.args.map Part.ex).flatMap pre).length+(((t.qK.map Part.cl).flatMap pre).length+((t.qQ.map Part.pr).flatMap pre).length)+1:=by
  rw[Qe];show((t.args.map Part.ex++t.qK.map Part.cl++t.qQ.map Part.pr).flatMap pre).length+1=_;rw[QQ,QQ,K1,K1];omega
 have A:∀{x},x∈pre (.pr t)->(pre x).all UF=true:=fun m=>by
  rw[KB]at W ⊢;exact fun y Q=>W y (Jt Q m)
 have l:∀x,Part.pr x∈pre (.pr t)->(pre (.pr x)).length<=n->RTx (loop G (Zd6 F)) x:=fun x m hl=>ih x (A m) hl G V6;generalize loop G (Zd6 F)=n1 at l;have hal:t.args.length<=((t.args.map Part.ex).flatMap pre).length:=by have:=Ww (t.args.map Part.ex);simpa using this
 have hdl:=ZbD t.qK;have hkl:t.qQ.length<=((t.qQ.map Part.pr).flatMap pre).length:=by have:=Ww (t.qQ.map Part.pr);simpa using this
 unfold OkB at hB
 have hk:∀h,h.length+12000*((pre (.pr t)).length-1)<=750000->∀o:U Y,o.length+((t.qQ.map Part.pr).flatMap pre).length<=20000->loop F (Ze1 t n1 h) (o,0)=some (JQ (t.qQ.flatMap fun k=>Jy (.pr k) h) o):=fun h P o r=>by
  refine Z8 (body:=Ze1 t n1 h) (fun(i:Nat)(o:U Y)=>(o,(i:Int))) t.qQ (fun rest o=>o.length+((rest.map Part.pr).flatMap pre).length<=20000) (fun rest o=>some (JQ (rest.flatMap fun k=>Jy (.pr k) h) o)) (F:=F) ?_ ?_ V6 o r;.intro o D _;simp only[Ze1,ZI,Cq0];rfl
  intro i x rest o D m K L q p;rw[JT,Kf,K1]at q;have I:=ZY (Y0 m);simp only[Ze1,ZO K,Cq1,L,Bq0,l x (Yf (Y0 m) (Yy _)) V6 o h V6 (by unfold OkB;omega)];rw[Qj V6,Kf,WQ];exact p _ (by have:=ZbX (Jy (.pr x) h) o;have:=Zh5 (.pr x) h;omega)
 have hd:∀h,h.length+12000*((pre (.pr t)).length-1)<=750000->∀o:U Y,o.length+((t.qK.map Part.cl).flatMap pre).length+((t.qQ.map Part.pr).flatMap pre).length<=20000->ZbA F t n1 o h=some (JQ (t.qK.flatMap (fun c=>Jy (.cl c) h)++t.qQ.flatMap fun k=>Jy (.pr k) h) o):=fun h P o r=>by
  unfold ZbA;refine Z8 (body:=ZhR F t n1 h) (fun(i:Nat)(o:U Y)=>(o,(i:Int))) t.qK (fun rest o=>o.length+((rest.map Part.cl).flatMap pre).length+((t.qQ.map Part.pr).flatMap pre).length<=20000) (fun rest o=>some (JQ (rest.flatMap (fun c=>Jy (.cl c) h)++t.qQ.flatMap fun k=>Jy (.pr k) h) o)) (F:=F) ?_ ?_ V6 o r;.intro o D q;simp only[ZhR,ZI,Cq0];simpa using hk h P o (by simpa using q)
  intro i x rest o D m K L q p;rw[JT,Kf,K1]at q;have I:=ZY (YP m);have X:ZyU F n1 o h x=some (JQ (Jy (.cl x) h) o):=ZQ5 T n V6 x n1 (A (Yf (YP m) (Yy _))) V6 (fun y Q=>l y (Yf (YP m) Q) (by have:=Jm Q;omega)) F V6 o h V6 (by unfold OkB;omega);simp only[ZhR,ZO K,Cq1,L,Bq0,X];rw[Qj V6,Kf,Q4,WQ];exact p _ (by have:=ZbX (Jy (.cl x) h) o;have:=Zh5 (.cl x) h;omega)
 have E:∀o:U Y,o.length+((t.qK.map Part.cl).flatMap pre).length+((t.qQ.map Part.pr).flatMap pre).length<=20000->(bif(t.op==4) then(Zq2 F t.qK).bind fun V=>(Zi9 B V).bind fun C=>(ZbA F t n1 o) C else(ZbA F t n1 o) B)=some (JQ (t.qK.flatMap (fun c=>Jy (.cl c) (bnd t B))++t.qQ.flatMap fun k=>Jy (.pr k) (bnd t B)) o):=fun o r=>by
  unfold bnd;cases h4:t.op==4;.simp only[Cq0];exact hd B V6 o r
  simp only[Cq1];have⟨a,b,c⟩:=ZeK V6 W (Yy (.pr t));have⟨n1',n2'⟩:=Zec a b c;have hlen:((Ue t.qK).1++(Ue t.qK).2).length<=11040:=by rw[K1];omega
  rw[ZuP T t.qK a b c,Bq0]
  have a1:Zi9 B ((Ue t.qK).1++(Ue t.qK).2)=some (B++((Ue t.qK).1++(Ue t.qK).2)):=by
   unfold Zi9;have a1:app 16 ([]:U Y) B=some ([]++B):=XY Vf V6;have a2:app 16 B ((Ue t.qK).1++(Ue t.qK).2)=some (B++((Ue t.qK).1++(Ue t.qK).2)):=XY V6 V6;rw[a1,Bq0,Jx,a2];rfl
  rw[a1,Bq0];exact hd _ (by rw[K1];omega) o r
 have ha:∀o:U Y,o.length+((t.args.map Part.ex).flatMap pre).length+((t.qK.map Part.cl).flatMap pre).length+((t.qQ.map Part.pr).flatMap pre).length<=20000->Ze0 F B t n1 o=some (JQ (((t.args.flatMap nmE).map fun s=>(s,B))++(t.qK.flatMap (fun c=>Jy (.cl c) (bnd t B))++t.qQ.flatMap fun k=>Jy (.pr k) (bnd t B))) o):=fun o r=>by
  unfold Ze0;refine Z8 (body:=ZhS F B t n1) (fun(i:Nat)(o:U Y)=>(o,(i:Int))) t.args (fun rest o=>o.length+((rest.map Part.ex).flatMap pre).length+((t.qK.map Part.cl).flatMap pre).length+((t.qQ.map Part.pr).flatMap pre).length<=20000) (fun rest o=>some (JQ (((rest.flatMap nmE).map fun s=>(s,B))++(t.qK.flatMap (fun c=>Jy (.cl c) (bnd t B))++t.qQ.flatMap fun k=>Jy (.pr k) (bnd t B))) o)) (F:=F) ?_ ?_ V6 o r;.intro o D q;simp only[ZhS,ZI,Cq0];simpa using E o (by simpa using q)
  intro i x rest o D m K L q p;rw[JT,Kf,K1]at q;have hnx:=Zqn x;have I:=ZY (QV m);have X:ZPh F o B x=some (puts B (nmE x) o):=Zwq T B V6 n x o V6 V6 V6 F V6;simp only[ZhS,ZO K,Cq1,L,Bq0,X];rw[Qj V6,Kf,GQ,Q4,WQ,Zz7];exact p _ (by have:=Zln B (nmE x) o;omega)
 rw[ZwN,Q4,WQ];unfold Zd6;dsimp only;by_cases S:t.qJ=E0;.have:decide (t.qJ=(⟨#[]⟩:Y))=true:=decide_eq_true S;rw[this,if_pos S];exact ha o V6
 have:decide (t.qJ=(⟨#[]⟩:Y))=false:=decide_eq_false S;rw[this,if_neg S];simp only[G9,Cq1];rw[put_eq T o B t.qJ V6 V6,Bq0];exact ha _ (by have:=ZgZ o B t.qJ;omega)
def ZQ4{F:Nat}(l:10^19<=F):∀n,n<=60->RT F n:=by intro n;induction n with|zero=>intro _ t _ hn;have:=Y7 (.pr t);omega|succ n ih=>intro h;exact ZKA l h (ih V6)
def ZEq{F:Nat}(m:10^19<=F)(t:Term)(l:(pre (.pr t)).all UF=true)(hn:(pre (.pr t)).length<=60):Zt5 F t=some (JQ (Jy (.pr t) []) []):=by unfold Zt5;have h:=ZQ4 m 60 V7 t l hn F V6 [] [] Vf (by unfold OkB;simp;omega);have e:ZFg F [] [] t=_:=h;rw[e];rfl
def nam(x:Y):Zi:=⟨2,0,x,[]⟩
def note(fr:MB)(B:U Y)(x:Y):MB:=if x∈B then fr else Xh fr x true
def bindM(l:U Y)(m:NM):NM:=l.foldl (fun m x=>Xh m x (nam x)) m
def ZjA:∀(l:U Y)(m:NM)(x:Y),ZQ (bindM l m) x=if x∈l then some (nam x) else ZQ m x
 | [],m,x=>by simp[bindM]
 | y::l,m,x=>by
   show ZQ (bindM l (Xh m y (nam y))) x=_;rw[ZjA l,ZaN];by_cases h1:x∈l
   .simp[h1]
   by_cases h2:x=y
   .subst h2;simp[h1]
   simp[h1,h2]
def bind_eq{F:Nat}(y:10^19<=F)(l:U Y)(t:l.length<=100000):ZmY F l=some (bindM l []):=by
 unfold ZmY;refine Z8 (body:=Zbd l l) (fun(k:Nat)(m:NM)=>((k:Int),m)) l (fun _ _=>True) (fun rest m=>some (bindM rest m)) (F:=F) ?_ ?_ V6 [] trivial;.intro m h _;simp only[Zbd,ZI,Cq0];rfl
 intro k x rest m h r p q _ ih;simp only[Zbd,ZO p,Cq1,q,Bq0,Zub];rw[Qj V6];exact ih _ trivial
def notes(B:U Y)(l:U Y)(fr:MB):MB:=l.foldl (fun fr x=>note fr B x) fr
def Zg7(B a b:U Y)(fr:MB):notes B (a++b) fr=notes B b (notes B a fr):=GE
def Zyf:∀(l:U Y)(s:CH),(∀x,has s.2 x=decide (x∈s.1))->∀x,x∈(l.foldl dj s).1↔x∈s.1\/x∈l
 | [],s,_,x=>by simp
 | y::l,s,h,x=>by
   rw[Gh]
   have q:∀z,has (dj s y).2 z=decide (z∈(dj s y).1):=fun z=>by
    unfold dj;cases r:has s.2 y
    .simp only[Cq0];rw[Zb9];show(has s.2 z||decide (z=y))=decide (z∈s.1++[y]);rw[h z];by_cases h1:z∈s.1<;>by_cases h2:z=y<;>simp[h1,h2]
    exact h z
   rw[Zyf l _ q x];have p:has s.2 y=decide (y∈s.1):=h y
   have e:x∈(dj s y).1↔x∈s.1\/x=y:=by
    unfold dj;by_cases m:y∈s.1;.rw[p,decide_eq_true m];exact⟨.inl,fun z=>z.elim id fun e=>e▸m⟩
    rw[p,decide_eq_false m];simp
   rw[e];simp[Ks];constructor;.rintro((h1|h1) | h1)<;>simp[h1]
   rintro(h1|h1|h1)<;>simp[h1]
def ZB5{sp:Spt}(h:sp∈(E0,l)::l.flatMap XZ){c:Za}(q:c∈sp.2){m:ZU}(p:m∈c.qG):m.qJ∈(Ue l).1:=by unfold Ue;rw[Zyf _ ([],[]) (fun x=>rfl)];exact .inr (G0.2 ⟨sp,h,Ge.2 ⟨m,G0.2 ⟨c,q,p⟩,rfl⟩⟩)
def Zz9{sp:Spt}(h:sp∈l.flatMap XZ):sp.1∈(Ue l).2:=Gi (f:=(·.1)) h
def ext(env:NM)(l h:U Y):NM:=((l.zip h).map fun p=>(p.1,nam p.2)).reverse++env
def tx1(env:NM)(x:Y):Y:=match ZQ env x with|some e=>e.qJ|none=>x
def tx0(env:NM)(x:Y):Y:=if x=E0 then E0 else tx1 env x
mutual
def KZ (env:NM):Zi->Zi
 | .mk m n h ks=>bif m==2 then(ZQ env h).getD (.mk m n h ks) else .mk m n h (ZJI env ks)
def ZJI (env:NM):U Zi->U Zi
 | []=>[]
 | k::l=>KZ env k::ZJI env l
end
def ZFn(env:NM)(l:U Zi):ZJI env l=l.map (KZ env):=by induction l with|nil=>rfl|cons k l ih=>rw[ZJI,ih];rfl
def Zrk(env:NM)(e:Zi):KZ env e=bif e.op==2 then(ZQ env e.qJ).getD e else .mk e.op e.n e.qJ (e.qQ.map (KZ env)):=by cases e;rw[KZ,ZFn]
abbrev BF(h:Type):=h->NM->U Y->Part->h×U Y
def JM(l:U Za):U Y:=(Ue l).1++(Ue l).2
def Zcx(env en:NM)(m:ZU):ZU:=⟨tx1 env m.qJ,m.names.map (tx1 en)⟩
section
variable{σ:Type}
mutual
def Wt (bd:BF σ) (s:σ) (env:NM):Term->σ×Term
 | .mk op tx ar ds ks=>bif op==4 then
     ((Wts bd (Wcs bd (bd s env (JM ds) (.pr (.mk op tx ar ds ks))).1 (ext env (JM ds) (bd s env (JM ds) (.pr (.mk op tx ar ds ks))).2) ds).1 (ext env (JM ds) (bd s env (JM ds) (.pr (.mk op tx ar ds ks))).2) ks).1,
      .mk op (tx0 env tx) (ar.map (KZ env)) (Wcs bd (bd s env (JM ds) (.pr (.mk op tx ar ds ks))).1 (ext env (JM ds) (bd s env (JM ds) (.pr (.mk op tx ar ds ks))).2) ds).2
       (Wts bd (Wcs bd (bd s env (JM ds) (.pr (.mk op tx ar ds ks))).1 (ext env (JM ds) (bd s env (JM ds) (.pr (.mk op tx ar ds ks))).2) ds).1 (ext env (JM ds) (bd s env (JM ds) (.pr (.mk op tx ar ds ks))).2) ks).2)
   else((Wts bd s env ks).1,.mk op (tx0 env tx) (ar.map (KZ env)) [] (Wts bd s env ks).2)
def Wts (bd:BF σ) (s:σ) (env:NM):U Term->σ×U Term
 | []=>(s,[])
 | t::l=>((Wts bd (Wt bd s env t).1 env l).1,(Wt bd s env t).2::(Wts bd (Wt bd s env t).1 env l).2)
def Wc (bd:BF σ) (s:σ) (env:NM):Za->σ×Za
 | .mk f tx js ds ks=>bif f==2 then
     ((Wts bd (Wcs bd s env ds).1 env ks).1,.mk f (tx1 env tx) [] (Wcs bd s env ds).2 (Wts bd (Wcs bd s env ds).1 env ks).2)
   else
    ((Wts bd (bd s env (Zz js) (.cl (.mk f tx js ds ks))).1 (ext env (Zz js) (bd s env (Zz js) (.cl (.mk f tx js ds ks))).2) ks).1,
     .mk f E0 (js.map (Zcx env (ext env (Zz js) (bd s env (Zz js) (.cl (.mk f tx js ds ks))).2))) []
      (Wts bd (bd s env (Zz js) (.cl (.mk f tx js ds ks))).1 (ext env (Zz js) (bd s env (Zz js) (.cl (.mk f tx js ds ks))).2) ks).2)
def Wcs (bd:BF σ) (s:σ) (env:NM):U Za->σ×U Za
 | []=>(s,[])
 | c::l=>((Wcs bd (Wc bd s env c).1 env l).1,(Wc bd s env c).2::(Wcs bd (Wc bd s env c).1 env l).2)
end
def inT(h:BF σ)(s:σ)(env:NM)(t:Term):σ×NM:=bif t.op==4 then((h s env (JM t.qK) (.pr t)).1,ext env (JM t.qK) (h s env (JM t.qK) (.pr t)).2) else(s,env)
def inC(h:BF σ)(s:σ)(env:NM)(c:Za):σ×NM:=bif c.qV==2 then(s,env) else((h s env (Zz c.qG) (.cl c)).1,ext env (Zz c.qG) (h s env (Zz c.qG) (.cl c)).2)
theorem ZnH{l:BF σ}{s:σ}{t:Term}(h:t.op=4):Wt l s env t=((Wts l (Wcs l (inT l s env t).1 (inT l s env t).2 t.qK).1 (inT l s env t).2 t.qQ).1,.mk t.op (tx0 env t.qJ) (t.args.map (KZ env)) (Wcs l (inT l s env t).1 (inT l s env t).2 t.qK).2 (Wts l (Wcs l (inT l s env t).1 (inT l s env t).2 t.qK).1 (inT l s env t).2 t.qQ).2):=by cases t;simp only at h;subst h;rw[Wt];rfl
theorem Zis{l:BF σ}{s:σ}{t:Term}(h:t.op≠4):Wt l s env t=((Wts l s env t.qQ).1,.mk t.op (tx0 env t.qJ) (t.args.map (KZ env)) [] (Wts l s env t.qQ).2):=by
 cases t with|mk op tx ar ds ks=>
 simp only at h;have:(op==4)=false:=by simpa using h
 rw[Wt,this];rfl
theorem Zer{l:BF σ}{s:σ}{c:Za}(h:c.qV=2):Wc l s env c=((Wts l (Wcs l s env c.qK).1 env c.qQ).1,.mk c.qV (tx1 env c.qJ) [] (Wcs l s env c.qK).2 (Wts l (Wcs l s env c.qK).1 env c.qQ).2):=by cases c;simp only at h;subst h;rw[Wc];rfl
theorem Zit{l:BF σ}{s:σ}{c:Za}(h:c.qV≠2):Wc l s env c=((Wts l (inC l s env c).1 (inC l s env c).2 c.qQ).1,.mk c.qV E0 (c.qG.map (Zcx env (inC l s env c).2)) [] (Wts l (inC l s env c).1 (inC l s env c).2 c.qQ).2):=by
 cases c with|mk f tx js ds ks=>
 simp only at h;have:(f==2)=false:=by simpa using h
 unfold inC;rw[Wc,this];simp[this,Cq0]
theorem ZbF(h:BF σ)(s:σ)(env:NM):Wts h s env []=(s,[]):=by rw[Wts]
theorem K7(h:BF σ)(s:σ)(env:NM)(t:Term)(l:U Term):Wts h s env (t::l)=((Wts h (Wt h s env t).1 env l).1,(Wt h s env t).2::(Wts h (Wt h s env t).1 env l).2):=by rw[Wts]
theorem ZaK(h:BF σ)(s:σ)(env:NM):Wcs h s env []=(s,[]):=by rw[Wcs]
theorem Zcl(h:BF σ)(s:σ)(env:NM)(c:Za)(l:U Za):Wcs h s env (c::l)=((Wcs h (Wc h s env c).1 env l).1,(Wc h s env c).2::(Wcs h (Wc h s env c).1 env l).2):=by rw[Wcs]
end
def ZAS:U NM->Y->O Zi
 | [],_=>none
 | m::c,x=>match ZQ m x with|some v=>some v|none=>ZAS c x
def find_eq(x:Y):∀(c:U NM)(F:Nat),c.length<F->Zkh F c x=some (match ZAS c x with|some v=>(v,true) | none=>(⟨0,0,E0,[]⟩,false)):=by
 intro c;induction c with
 | nil=>
   intro F h;obtain⟨G,rfl⟩:∃G,F=G+1:=⟨F-1,by omega⟩;unfold Zkh;rw[ZV];simp[Zm1,ZAS]
 | cons m c ih=>
   intro F h;obtain⟨G,rfl⟩:∃G,F=G+1:=⟨F-1,by omega⟩
   unfold Zkh;rw[ZV];show(bif(ZQ m x).isSome then some ((ZQ m x).getD ⟨0,0,⟨#[]⟩,[]⟩,true) else loop G (Zm1 x) c)=_;unfold ZAS;cases l:ZQ m x with|some v=>rfl|none=>
     have:=ih G (by simp[Kd]at h;omega);unfold Zkh at this;simp[Option.isSome_none,Cq0];rw[this]
def J6(h:Y->Z)(l:U Y):Y->Z:=fun x=>h x && !decide (x∈l)
mutual
def bT (h:Y->Z):Term->Z
 | .mk p m ar ds ks=>(!decide (m=E0)&&h m)||bif p==4 then bCs (J6 h (JM ds)) ds||bTs (J6 h (JM ds)) ks else bTs h ks
def bTs (h:Y->Z):U Term->Z
 | []=>false
 | t::l=>bT h t||bTs h l
def bC (h:Y->Z):Za->Z
 | .mk f m q ds ks=>bif f==2 then bCs h ds||bTs h ks else bTs (J6 h (Zz q)) ks
def bCs (h:Y->Z):U Za->Z
 | []=>false
 | c::l=>bC h c||bCs h l
end
def ZMc(h:Y->Z)(t:Term):bT h t=((!decide (t.qJ=E0)&&h t.qJ)||bif t.op==4 then bCs (J6 h (JM t.qK)) t.qK||bTs (J6 h (JM t.qK)) t.qQ else bTs h t.qQ):=by cases t;rw[bT]
def ZFN(h:Y->Z)(c:Za):bC h c=bif c.qV==2 then bCs h c.qK||bTs h c.qQ else bTs (J6 h (Zz c.qG)) c.qQ:=by cases c;rw[bC]
def Zih(h:Y->Z)(t:Term)(l:U Term):bTs h (t::l)=(bT h t||bTs h l):=by rw[bTs]
def ZkR(h:Y->Z):bTs h []=false:=by rw[bTs]
def ZuX(h:Y->Z)(t:Za)(l:U Za):bCs h (t::l)=(bC h t||bCs h l):=by rw[bCs]
def ZrL(h:Y->Z):bCs h []=false:=by rw[bCs]
structure CE(R:List NM->NM->Prop)(c:List NM)(env:NM)(B Bn:List ByteArray)(bad:ByteArray->Bool):Prop where
 get:∀x,ZAS c x=ZQ env x
 sz:∀x e,ZQ env x=some e->(pre (.ex e)).length<=60
 b:∀x,x∈B↔(ZQ env x).isSome=true
 bd:∀x,bad x=true↔∃e,ZQ env x=some e/\e.op≠2
 nb:∀x,x∈Bn->x∈B/\bad x=false
 r:R c env
variable{R:U NM->NM->Prop}
def Zsh{F:Nat}{A:U Y}{m:Y->Z}(x:Y)(fr:MB)(c:U NM)(t:c.length<F)(h:CE R c env B A m):Zpr F fr c x=some (bif m x then .Yq 7 else .ok (note fr B x,tx1 env x)):=by
 unfold Zpr note tx1;rw[find_eq x c F t,Bq0,h.get x];have q:=h.b x;have p:=h.bd x;cases r:ZQ env x with
 | none=>
   rw[r]at q p
   have l:m x=false:=by
    cases e:m x;.rfl
    have⟨_,z,_⟩:=p.1 e;cases z
   rw[if_neg (by simpa using q),l];rfl
 | some e=>
   rw[r]at q p;rw[if_pos (q.2 rfl)];by_cases h2:e.op=2
   .have l:m x=false:=by
     cases y:m x;.rfl
     have⟨_,z,z2⟩:=p.1 y;cases z;exact absurd h2 z2
    rw[l];simp[h2]
   have l:m x=true:=p.2 ⟨e,rfl,h2⟩;have:(e.op !=2)=true:=by simpa using h2
   rw[l];show(bif(e.op !=2) then some (PR.Yq 7) else some (PR.ok (fr,e.qJ)))=_;rw[this];rfl
def Zk7{F:Nat}{m:U Y}{l:Y->Z}(x:Y)(fr:MB)(c:U NM)(q:c.length<F)(h:CE R c env B m l)(p:x∈m):Zm0 F fr c x=some (fr,tx1 env x):=by have⟨h1,h2⟩:=h.nb x p;unfold Zm0;rw[Zsh x fr c q h,h2];show some (id (note fr B x,tx1 env x))=_;unfold note;rw[if_pos h1];rfl
def ZrA{F:Nat}(E:10^19<=F):∀n e,(pre (.ex e)).length<=n->n<=60->∀Fr,n<=Fr->loop Fr (Zgk F) e=some e:=by
 intro n
 induction n with|zero=>intro e hn;have:=Y7 (.ex e);omega|succ n ih=>
   intro e hn C Fr B;obtain⟨G,rfl⟩:∃G,Fr=G+1:=⟨Fr-1,by omega⟩;rw[ZV];have l:∀x∈e.qQ,loop G (Zgk F) x=some x:=fun x p=>ih x (by have:=ZY (Xd p);omega) V6 G V6;have t:e.qQ.length<(pre (.ex e)).length:=by have:=Uv (.ex e);simpa[Ya]using this
   generalize loop G (Zgk F)=n1 at l;unfold Zgk;have:=Z8 (body:=Zhx e n1) (fun(k:Nat)(h:U Zi)=>((k:Int),h)) e.qQ (fun rest h=>h.length+rest.length<=1000) (fun rest h=>some (Zi.mk e.op e.n e.qJ (h++rest))) (F:=F) ?_ ?_ V6 [] Vf;.refine this.trans ?_;rw[Jx];cases e;rfl
   .intro h q _;simp only[Zhx,ZI,Cq0,G8]
   intro k x rest h q p y A r m;simp only[Kd]at r;have D:app 56 h [x]=some (h++[x]):=XY Vf V6;simp only[Zhx,ZO y,Cq1,A,Bq0,l x p,D];rw[Qj V6,m _ Vf,Q4];rfl
def ZVE{F:Nat}(V:10^19<=F){K:Y->Z}{c:U NM}(E:CE R c env B Bn K)(D:c.length<F):∀n e (fr:MB),(pre (.ex e)).all UF=true->(pre (.ex e)).length<=n->n<=60->∀Fr,n<=Fr->loop Fr (Zgn F c) (fr,e)=some (notes B (nmE e) fr,KZ env e):=by
 intro n
 induction n with|zero=>intro e fr _ hn;have:=Y7 (.ex e);omega|succ n ih=>
   intro e fr A hn W Fr T;obtain⟨G,rfl⟩:∃G,Fr=G+1:=⟨Fr-1,by omega⟩;rw[ZV];have l:∀x∈e.qQ,∀fr:MB,loop G (Zgn F c) (fr,x)=some (notes B (nmE x) fr,KZ env x):=fun x p fr=>ih x fr (by rw[KB]at A ⊢;exact fun y t=>A y (Yf (Xd p) t)) (by have:=ZY (Xd p);omega) V6 G V6;have S:e.qQ.length<(pre (.ex e)).length:=by have:=Uv (.ex e);simpa[Ya]using this
   have h:KU e=true:=KB.1 A _ (Yy _);generalize loop G (Zgn F c)=n1 at l;rw[ZvT,Zrk];unfold Zgn;dsimp only;cases h2:e.op==2
   .simp only[Cq0,Jx]
    have P:e.qJ=E0:=by
     unfold KU at h;rw[h2]at h;cases h1:e.op==1<;>rw[h1]at h<;>simp only[Cq1,Cq0,Ba0,decide_eq_true_eq]at h;.exact h.1.1.2
     exact h.1.2
    have:=Z8 (body:=Zm5 e n1) (fun(k:Nat)(s:MB×U Zi)=>((k:Int),s.1,s.2)) e.qQ (fun rest s=>s.2.length+rest.length<=1000) (fun rest s=>some (notes B (rest.flatMap nmE) s.1,Zi.mk e.op e.n E0 (s.2++rest.map (KZ env)))) (F:=F) ?_ ?_ V6 (fr,[]) Vf;.refine this.trans ?_;rw[P];rfl
    .intro s L _;simp only[Zm5,ZI,Cq0,GT,G8];rfl
    intro k x rest s L p C m Q r;simp only[Kd]at Q;simp only[Zm5,ZO C,Cq1,m,Bq0,l x p];have X:app 56 s.2 [KZ env x]=some (s.2++[KZ env x]):=XY Vf V6;rw[X,Bq0,Qj V6];refine(r (notes B (nmE x) s.1,s.2++[KZ env x]) Vf).trans ?_;rw[Kf,Zg7,Q4];rfl
   have C:e.qQ=[]:=by
    have I:e.op=2:=by simpa using h2
    unfold KU at h;rw[I]at h;simp only[Int.reduceBEq,Cq1,Cq0,Ba0,beq_iff_eq]at h;exact Gd h.2
   rw[C];simp only[Cq1,List.flatMap_nil,G8];rw[find_eq e.qJ c F D,Bq0,E.get];have q:=E.b e.qJ;cases m:ZQ env e.qJ with
   | none=>
     rw[m]at q;show some (Xh fr e.qJ true,e)=some (note fr B e.qJ,e);unfold note;rw[if_neg (by simpa using q)]
   | some y=>
     rw[m]at q;have t:=ZrA V 60 y (E.sz _ _ m) V7 F V6;show((ZyQ F y).bind fun z=>some (fr,z))=some (note fr B e.qJ,y);unfold note ZyQ;rw[if_pos (q.2 rfl),t];rfl
structure BE(F:Nat)(I':Nat->MB->Prop)(R:List NM->NM->Prop)(YC:Km)(rlL:Za->List ByteArray->Option MB)(frL:Term->Option MB)(bd:BF MB):Prop where
 mono:∀k j tk,I' (k+j) tk->I' k tk
 t:∀tk c env B Bn bad t k,CE R c env B Bn bad->c.length+2*(pre (.pr t)).length<F->B.length+12000*(pre (.pr t)).length<=750000->(pre (.pr t)).all UF=true->(pre (.pr t)).length<=60->t.op=4->(JM t.qK).length<=11040->I' (k+(JM t.qK).length) tk ->
  ∃m,YC tk c (JM t.qK) (frL t)=some ((bd tk env (JM t.qK) (.pr t)).1,m)/\CE R (m::c) (ext env (JM t.qK) (bd tk env (JM t.qK) (.pr t)).2) (B++JM t.qK) (Bn++JM t.qK) (J6 bad (JM t.qK))/\I' k (bd tk env (JM t.qK) (.pr t)).1
 r:∀tk c env B Bn bad p k,CE R c env B Bn bad->c.length+2*(pre (.cl p)).length<F->B.length+12000*(pre (.cl p)).length<=750000->(pre (.cl p)).all UF=true->(pre (.cl p)).length<=60->p.qV=1->(Zz p.qG).length<=9->I' (k+(Zz p.qG).length) tk ->
  ∃m,YC tk c (Zz p.qG) (rlL p (Zz p.qG))=some ((bd tk env (Zz p.qG) (.cl p)).1,m)/\CE R (m::c) (ext env (Zz p.qG) (bd tk env (Zz p.qG) (.cl p)).2) (B++Zz p.qG) (Bn++Zz p.qG) (J6 bad (Zz p.qG))/\I' k (bd tk env (Zz p.qG) (.cl p)).1
def Qa(l:U Evt)(fr:MB):MB:=l.foldl (fun fr e=>note fr e.2 e.1) fr
def UX(a b:U Evt)(fr:MB):Qa (a++b) fr=Qa b (Qa a fr):=GE
def ZvQ(B:U Y)(l:U Y)(fr:MB):Qa (l.map fun s=>(s,B)) fr=notes B l fr:=by unfold Qa notes;rw[List.foldl_map]
def TXg(F:Nat)(p:Nat->MB->Prop)(R:U NM->NM->Prop)(m:BF MB)(q:WS×U NM×Term->O (PR (WS×Term)))(t:Term):Prop:=∀fr l c env B r h k,CE R c env B r h->c.length+2*(pre (.pr t)).length<F->B.length+12000*(pre (.pr t)).length<=750000->p (k+12000*(pre (.pr t)).length) l ->
 q ((fr,l),c,t)=some (bif bT h t then .Yq 7 else .ok ((Qa (Jy (.pr t) B) fr,(Wt m l env t).1),(Wt m l env t).2))/\(bT h t=false->p k (Wt m l env t).1)
def Zf8{c:Za}(r:U9 c=true):(Zz c.qG).length<=9:=by
 have⟨h3,hn3,k,hk⟩:=Kz r
 have:∀l:U ZU,(∀m∈l,m.names.length<=3)->(Zz l).length<=3*l.length:=by
  intro l
  induction l with|nil=>intro _;simp[Zz]|cons m l p=>
    intro h;have a:=h m Vd;have b:=p fun x q=>h x (Kx _ q);unfold Zz at b ⊢;rw[Kf,K1,Kd];omega
 have:=this c.qG hn3;omega
def ZeE{c:Za}(h:U9 c=true)(l:c.qV=1):c.qJ=E0/\c.qK=[]:=by unfold U9 at h;rw[l]at h;simp only[Int.reduceBEq,Cq0,Ba0,decide_eq_true_eq,beq_iff_eq]at h;exact⟨h.2.1.1.1.1.2,Gd h.2.1.1.1.2⟩
def ZMZ{F:Nat}(hF:10^19<=F){V:Nat->MB->Prop}{YC:Km}{rl:Za->U Y->O MB}{fl:Term->O MB}{t:BF MB}(hE:BE F V R YC rl fl t){l:Y->Z}{c:U NM}(hc:CE R c env B Bn l)(G:WS×U NM×Term->O (PR (WS×Term)))(I:Za)(hs:(pre (.cl I)).all UF=true)(h60:(pre (.cl I)).length<=60)(X:I.qV=1)(hcl:c.length+2*(pre (.cl I)).length<F)(hB:B.length+12000*(pre (.cl I)).length<=750000)(hj:∀m∈I.qG,m.qJ∈Bn)(hnx:∀k∈I.qQ,TXg F V R t G k)(fr y:MB)(W:Nat)(hI:V (W+12000*(pre (.cl I)).length) y):
 Zpq F YC rl G (fr,y) c I=some (bif bC l I then .Yq 7 else .ok ((Qa (Jy (.cl I) B) fr,(Wc t y env I).1),(Wc t y env I).2))/\(bC l I=false->V W (Wc t y env I).1):=by
 have D:U9 I=true:=KB.1 hs _ (Yy _);have⟨h3,hn3,k,hk⟩:=Kz D;have hd:=ZeE D X;have hkl:=ZY (Y5 (c:=I) (x:=k) (by rw[hk];simp));have Q:=Zf8 D;have⟨K,hb,hci,hIb⟩:=hE.r y c env B Bn l I (W+12000*(pre (.pr k)).length) hc hcl hB hs h60 X Q (hE.mono _ (12000*(pre (.cl I)).length-12000*(pre (.pr k)).length-(Zz I.qG).length) _ (by refine(congrArg (fun z=>V z y) ?_).mp hI;omega));have he:Jy (.cl I) B=Jy (.pr k) (B++Zz I.qG):=by rw[Zrn,hd.2,hk];simp
 have hne:I.qV≠2:=V6
 have hbc:bC l I=bT (J6 l (Zz I.qG)) k:=by
  rw[ZFN,X,hk];show bTs _ [k]=_;rw[Zih,ZkR,Bool.or_false]
 have hin:inC t y env I=((t y env (Zz I.qG) (.cl I)).1,ext env (Zz I.qG) (t y env (Zz I.qG) (.cl I)).2):=by
  unfold inC;rw[X];rfl
 rw[Zit hne,hin,hk,K7,ZbF,he,hbc];generalize t y env (Zz I.qG) (.cl I)=bv at hb hci hIb;have⟨tk1,to⟩:=bv;dsimp only at hb hci hIb ⊢;generalize hen:ext env (Zz I.qG) to=en at hci ⊢;have P:=fun fr=>hnx k (by rw[hk];simp) fr tk1 _ _ _ _ _ W hci (by simp only[Kd];omega) (by rw[K1];omega) hIb;refine⟨?_,(P fr).2⟩
 have hb2:∀(i:Int) next p (m:ZU) fr,m∈I.qG->p.length<=10->loop F (ZeU F (K::c) i next p m (tx1 env m.qJ)) (0,fr,[])=next (Xa (i+1),fr,p++[Zcx env en m]):=fun i next p m fr E hjs=>by
  have hmn:=hn3 m E;have:=Z8 (body:=ZeU F (K::c) i next p m (tx1 env m.qJ)) (fun(q:Nat)(h:U Y)=>((q:Int),fr,h)) m.names (fun rest h=>h.length+rest.length<=10) (fun rest h=>next (Xa (i+1),fr,p++[ZU.mk (tx1 env m.qJ) (h++rest.map (tx1 en))])) (F:=F) ?_ ?_ V6 [] Vf;.refine this.trans ?_;rw[Jx];rfl
  .intro h A C;have T:app 40 p [ZU.mk (tx1 env m.qJ) h]=some (p++[ZU.mk (tx1 env m.qJ) h]):=XY Vf V6;simp only[ZeU,ZI,Cq0,T,Bq0,GT,G8]
  intro q x rest h A hx L S C ih;simp only[Kd]at C;have hxb:x∈Bn++Zz I.qG:=Gz _ (G0.2 ⟨m,E,hx⟩);have ht:=Zk7 (F:=F) x fr (K::c) (by simp only[Kd];omega) hci hxb;have T:app 16 h [tx1 en x]=some (h++[tx1 en x]):=XY Vf V6;simp only[ZeU,ZO L,Cq1,S,Bq0,ht,T];rw[Qj V6,ih _ Vf,Q4];rfl
 have hb1:∀fr:MB,loop F (ZeV F G c (K::c) tk1 I) (0,fr,[])=some (bif bT (J6 l (Zz I.qG)) k then .Yq 7 else .ok ((Qa (Jy (.pr k) (B++Zz I.qG)) fr,(Wt t tk1 en k).1),Za.mk I.qV E0 (I.qG.map (Zcx env en)) [] [(Wt t tk1 en k).2])):=fun fr=>by
  refine Z8 (body:=ZeV F G c (K::c) tk1 I) (fun(q:Nat)(p:U ZU)=>((q:Int),fr,p)) I.qG (fun rest p=>p.length+rest.length<=10) (fun rest p=>some (bif bT (J6 l (Zz I.qG)) k then .Yq 7 else .ok ((Qa (Jy (.pr k) (B++Zz I.qG)) fr,(Wt t tk1 en k).1),Za.mk I.qV E0 (p++rest.map (Zcx env en)) [] [(Wt t tk1 en k).2]))) (F:=F) ?_ ?_ V6 [] Vf
  .intro p A C;have g0:Z7 I.qQ 0=some k:=by rw[hk];rfl
   simp only[ZeV,ZI,Cq0,g0,Bq0];rw[(P fr).1,Bq0,GT,G8];cases bT (J6 l (Zz I.qG)) k<;>rfl
  intro q m rest p A E L S C ih;have ht:=Zk7 (F:=F) m.qJ fr c V6 hc (hj m E);simp only[Kd]at C;simp only[ZeV,ZO L,Cq1,S,Bq0,ht];rw[hb2 _ _ p m fr E V6,Qj V6,ih _ Vf,Q4];rfl
 unfold Zpq;have:=Z8 (body:=Zhw F YC rl G (fr,y) c I) (fun(q:Nat)(h:U Y)=>((q:Int),h)) I.qG (fun rest h=>h++Zz rest=Zz I.qG/\h.length<=9) (fun _ _=>some (bif bT (J6 l (Zz I.qG)) k then .Yq 7 else .ok ((Qa (Jy (.pr k) (B++Zz I.qG)) fr,(Wt t tk1 en k).1),Za.mk I.qV E0 (I.qG.map (Zcx env en)) [] [(Wt t tk1 en k).2]))) (F:=F) ?_ ?_ V6 [] ⟨rfl,Gq _⟩;.exact this
 .intro h A C;have hns:h=Zz I.qG:=by have:=C.1;simpa[Zz]using this
  subst hns;simp only[Zhw,ZI,Cq0];rw[hb,Bq0];exact hb1 fr
 intro q m rest h A E L S C ih;have hmn:=hn3 m E;have T:app 16 h m.names=some (h++m.names):=XY V6 V6;simp only[Zhw,ZO L,Cq1,S,Bq0,T];rw[Qj V6];refine ih _ ⟨?_,?_⟩;.have:=C.1;unfold Zz at this ⊢;rw[Kf]at this;rw[Q4];exact this
 have:=congrArg List.length C.1;unfold Zz at this;rw[Kf,K1,K1]at this;unfold Zz at Q;rw[K1];omega
def Zg2{h:Type}(y:h)(p:Int->O β)(k:h->O β):UJ (.ok y) p k=k y:=rfl
def Za8{y p t:Type}{body:t->(t->O β)->O β}(q:Nat->p->t)(l:U y)(Pre:U y->p->Prop)(Q:U y->p->O β->Prop)
 (E:∀s r,Pre [] s->Q [] s (body (q l.length s) r))
 (h1:∀(k:Nat) x rest s r,x∈l->k<l.length->Z7 l (k:Int)=some x->Pre (x::rest) s->(∀s',Pre rest s'->Q rest s' (r (q (k+1) s')))->Q (x::rest) s (body (q k s) r)) {F:Nat} (C:l.length<F) (s:p) (m:Pre l s):Q l s (loop F body (q 0 s)):=by
 have A:∀(d j F:Nat)(s:p),j+d=l.length->d<F->Pre (l.drop j) s->Q (l.drop j) s (loop F body (q j s)):=by
  intro d;induction d with
  | zero=>
    intro j F s D C m;obtain⟨F,rfl⟩:∃G,F=G+1:=⟨F-1,by omega⟩;obtain rfl:j=l.length:=V6;rw[List.drop_length]at m ⊢;rw[ZV];exact E _ _ m
  | succ d ih=>
    intro j F s D C m;obtain⟨F,rfl⟩:∃G,F=G+1:=⟨F-1,by omega⟩;have h:j<l.length:=V6;rw[List.drop_eq_getElem_cons h]at m ⊢;rw[ZV];exact h1 j _ _ s _ (GG h) h (QY h) m fun s' B=>ih (j+1) F s' V6 V6 B
 have:=A l.length 0 F s V6 C (by simpa using m);simpa using this
def ZeA{t:Term}(h:Zff t=true)(l:t.op≠4):t.qK=[]:=by
 have m:(t.op==4)=false:=by simpa using l
 unfold Zff szs at h;rw[m,Ba0]at h;have⟨h,_⟩:=h
 have z:t.qK.length=0:=by
  cases a:(t.op==1)||(t.op==7)<;>rw[a]at h
  .cases b:t.op==2<;>rw[b]at h
   .cases c:t.op==3<;>rw[c]at h
    .cases d:t.op==5<;>rw[d]at h<;>simp only[Cq1,Cq0,Ba0,beq_iff_eq]at h;.exact h.2.1.2
     exact h.1.2
    simp only[Cq1,Cq0,Ba0,beq_iff_eq]at h;exact h.1.2
   simp only[Cq1,Cq0,Ba0,beq_iff_eq]at h;exact h.2.1.2
  simp only[Cq1,Cq0,Ba0,beq_iff_eq]at h;exact h.1.2
 exact Gd z
structure TB(B:List ByteArray)(l:List Za):Prop where
 j:∀sp∈(E0,l)::l.flatMap XZ,∀c∈sp.2,∀m∈c.qG,m.qJ∈B
 p:∀sp∈l.flatMap XZ,sp.1∈B
def TB.sub(h:TB B l){c:Za}(y:c∈l)(h2:c.qV=2):TB B c.qK:=by
 have e:XZ c=(c.qJ,c.qK)::c.qK.flatMap XZ:=by rw[Wh,h2];rfl
 have r:∀sp,sp∈(c.qJ,c.qK)::c.qK.flatMap XZ->sp∈l.flatMap XZ:=fun sp q=>G0.2 ⟨c,y,by rw[e];exact q⟩;constructor
 .intro sp q d x m t;rcases Ks.1 q with rfl|q
  .exact h.j (c.qJ,c.qK) (Kx _ (r _ GA)) d x m t
  exact h.j sp (Kx _ (r _ (Kx _ q))) d x m t
 exact fun sp q=>h.p sp (r _ (Kx _ q))
def TB.qJ(h:TB B l){c:Za}(m:c∈l)(h2:c.qV=2):c.qJ∈B:=h.p (c.qJ,c.qK) (G0.2 ⟨c,m,by rw[Wh,h2];exact GA⟩)
def ZQ0(B:U Y):TB (B++JM l) l:=
 ⟨fun sp h c q m p=>Gz _ (GH _ (ZB5 h q p)),fun sp h=>Gz _ (Gz _ (Zz9 h))⟩
variable{F:Nat}{I':Nat->MB->Prop}{YC:Km}{rl:Za->U Y->O MB}{fl:Term->O MB}{bd:BF MB}
def Zvh(m:BE F I' R YC rl fl bd){a:Nat}{tk:MB}(h:b<=a)(l:I' a tk):I' b tk:=m.mono b (a-b) tk (by rw[show b+(a-b)=a by omega];exact l)
def ZAP(hF:10^19<=F)(hE:BE F I' R YC rl fl bd){p:Y->Z}{c:U NM}(hc:CE R c env B Bn p)(Q:WS×U NM×Term->O (PR (WS×Term))):∀n (l:U Za),((l.map Part.cl).flatMap pre).length<=n->n<=60->(∀x∈(l.map Part.cl).flatMap pre,UF x=true)->(∀t,Part.pr t∈(l.map Part.cl).flatMap pre->TXg F I' R bd Q t)->TB Bn l ->
 ∀Fr,n<Fr->∀(fr A:MB)(C:Nat),c.length+2*((l.map Part.cl).flatMap pre).length<F->B.length+12000*((l.map Part.cl).flatMap pre).length<=750000->I' (C+12000*((l.map Part.cl).flatMap pre).length) A ->
 loop Fr (Zd2 F YC rl Q c) ((fr,A),l)=some (bif bCs p l then .Yq 7 else .ok ((Qa (l.flatMap fun d=>Jy (.cl d) B) fr,(Wcs bd A env l).1),(Wcs bd A env l).2))/\(bCs p l=false->I' C (Wcs bd A env l).1):=by
 intro n
 induction n with
 | zero=>
   intro l hl _ _ _ _ Fr hFr fr A C _ _ hI
   have:l=[]:=by
    cases l with|nil=>rfl|cons x l=>simp only[JT,Kf,K1]at hl;have:=Y7 (.cl x);omega
   subst this;obtain⟨G,rfl⟩:∃G,Fr=G+1:=⟨Fr-1,by omega⟩
   rw[ZV];rw[ZaK,ZrL];refine⟨?_,fun _=>Zvh hE V6 hI⟩;unfold Zd2;dsimp only;cases F with|zero=>omega|succ F=>rw[ZV];rfl
 | succ n ih=>
   intro l hl h60 hs X W Fr hFr fr A C hcl hB hI;obtain⟨G,rfl⟩:∃G,Fr=G+1:=⟨Fr-1,by omega⟩
   rw[ZV];have hlen:=ZbD l
   have hih:∀x∈l,x.qV=2->∀(fr A:MB)(C:Nat),I' (C+12000*((x.qK.map Part.cl).flatMap pre).length) A->loop G (Zd2 F YC rl Q c) ((fr,A),x.qK)=some (bif bCs p x.qK then .Yq 7 else .ok ((Qa (x.qK.flatMap fun d=>Jy (.cl d) B) fr,(Wcs bd A env x.qK).1),(Wcs bd A env x.qK).2))/\(bCs p x.qK=false->I' C (Wcs bd A env x.qK).1):=fun x L h2 fr A C hI=>by
    have S:∀y∈(x.qK.map Part.cl).flatMap pre,y∈(l.map Part.cl).flatMap pre:=fun y K=>by
     obtain⟨z,hz,K⟩:=G0.1 K;obtain⟨d,hd,rfl⟩:=Ge.1 hz;exact G0.2 ⟨_,Gi L,Yf (Yw hd) K⟩
    have h1:((x.qK.map Part.cl).flatMap pre).length<(pre (.cl x)).length:=by
     rw[Qe (.cl x)];show _<((x.qK.map Part.cl++x.qQ.map Part.pr).flatMap pre).length+1;rw[QQ,K1];omega
    have h2':=Wv (Gi (f:=Part.cl) L);exact ih x.qK V6 V6 (fun y K=>hs y (S y K)) (fun t ht=>X t (S _ ht)) (W.sub L h2) G V6 fr A C V6 V6 hI
   generalize loop G (Zd2 F YC rl Q c)=n1 at hih;unfold Zd2;dsimp only
   have:=Za8 (body:=ZmX F YC rl Q c l n1) (fun(q:Nat)(s:MB×MB×U Za)=>((q:Int),(s.1,s.2.1),s.2.2)) l
    (fun rest s=>s.2.2.length+rest.length<=70/\I' (C+12000*((rest.map Part.cl).flatMap pre).length) s.2.1)
    (fun rest s r=>r=some (bif bCs p rest then .Yq 7 else .ok ((Qa (rest.flatMap fun d=>Jy (.cl d) B) s.1,(Wcs bd s.2.1 env rest).1),s.2.2++(Wcs bd s.2.1 env rest).2))/\(bCs p rest=false->I' C (Wcs bd s.2.1 env rest).1)) (F:=F) ?_ ?_ V6 (fr,A,[]) ⟨by simp;omega,hI⟩
   ·obtain⟨e,hi⟩:=this;dsimp only at e hi;rw[Jx]at e;exact⟨e,hi⟩
   ·rintro⟨fr,A,E⟩ I ⟨P,D⟩;dsimp only at P D ⊢;rw[ZaK,ZrL];refine⟨?_,fun _=>Zvh hE V6 D⟩;simp only[ZmX,ZI,Cq0,G8];rfl
   rintro q x rest ⟨fr,A,E⟩ I L hq hg ⟨P,D⟩ hr;dsimp only at P D ⊢;rw[JT,Kf,K1]at D;simp only[Kd]at P;have ZHI:∀y∈pre (.cl x),y∈(l.map Part.cl).flatMap pre:=fun y K=>G0.2 ⟨_,Gi L,K⟩
   have hxs:(pre (.cl x)).all UF=true:=KB.2 fun y K=>hs y (ZHI y K)
   have V:U9 x=true:=hs _ (ZHI _ (Yy _));have hxl:=Wv (Gi (f:=Part.cl) L)
   have hif:x.qV=1\/x.qV=2:=by
    rcases(ZbI V).2 with h|h
    ·exact .inl h
    exact .inr h.1
   rw[Kf,Zcl,ZuX,UX];dsimp only;have fin:∀y:Za,app 96 E [y]=some (E++[y]):=fun y=>XY Vf V6
   have main:(bif x.qV==2 then(Zm0 F fr c x.qJ).bind fun y=>(n1 ((y.1,A),x.qK)).bind fun d=>UJ d (fun e=>some (.Yq e)) fun d=>(Z7 x.qQ 0).bind fun k=>(Q (d.1,c,k)).bind fun z=>UJ z (fun e=>some (.Yq e)) fun z=>(app 96 E [Za.mk x.qV y.2 [] d.2 [z.2]]).bind fun a=>I (Xa ((q:Int)+1),z.1,a) else(Zpq F YC rl Q (fr,A) c x).bind fun z=>UJ z (fun e=>some (.Yq e)) fun z=>(app 96 E [z.2]).bind fun a=>I (Xa ((q:Int)+1),z.1,a))=(bif bC p x then some (.Yq 7) else I (Xa ((q:Int)+1),(Qa (Jy (.cl x) B) fr,(Wc bd A env x).1),E++[(Wc bd A env x).2]))/\(bC p x=false->I' (C+12000*((rest.map Part.cl).flatMap pre).length) (Wc bd A env x).1):=by
    rcases hif with h1|h2
    ·have hne:(x.qV==2)=false:=by rw[h1];rfl
     obtain⟨e,hi⟩:=ZMZ hF hE hc Q x hxs V6 h1 V6 V6 (fun m hm=>W.j (E0,l) GA x L m hm) (fun k T=>X k (ZHI _ (Yf (Y5 T) (Yy _)))) fr A (C+12000*((rest.map Part.cl).flatMap pre).length) (Zvh hE V6 D);rw[hne];simp only[Cq0];rw[e,Bq0];refine⟨?_,hi⟩;cases bC p x
     ·simp only[Cq0,Zg2,fin,Bq0]
     rfl
    have he2:(x.qV==2)=true:=by rw[h2];rfl
    obtain⟨_,_,k,T⟩:=Kz V
    have hj0:x.qG=[]:=by
     rcases(ZbI V).2 with h|h
     ·omega
     exact h.2
    have hsz:(pre (.cl x)).length=((x.qK.map Part.cl).flatMap pre).length+(pre (.pr k)).length+1:=by
     rw[Qe];show((x.qK.map Part.cl++x.qQ.map Part.pr).flatMap pre).length+1=_;rw[T,QQ,K1];simp
    have hbc:bC p x=(bCs p x.qK||bT p k):=by
     rw[ZFN,h2,T];show(bCs p x.qK||bTs p [k])=_;rw[Zih,ZkR,Bool.or_false]
    obtain⟨e1,i1⟩:=hih x L h2 fr A (C+12000*((rest.map Part.cl).flatMap pre).length+12000*(pre (.pr k)).length) (Zvh hE V6 D);have hkm:k∈x.qQ:=by rw[T];simp
    have ht:=Zk7 (F:=F) x.qJ fr c V6 hc (W.qJ L h2);have g0:Z7 x.qQ 0=some k:=by rw[T];rfl
    rw[he2,hbc];simp only[Cq1];rw[ht,Bq0,e1,Bq0];cases hbd:bCs p x.qK
    ·obtain⟨e2,i2⟩:=X k (ZHI _ (Yf (Y5 hkm) (Yy _))) (Qa (x.qK.flatMap fun d=>Jy (.cl d) B) fr) (Wcs bd A env x.qK).1 c env B Bn p (C+12000*((rest.map Part.cl).flatMap pre).length) hc V6 V6 (i1 hbd);rw[Zer h2,T,K7,ZbF,Zrn,hj0,T];refine⟨?_,i2⟩;simp only[Cq0,Zg2,Gk];rw[show Z7 [k] 0=some k from rfl,Bq0,e2,Bq0];cases bT p k
     ·simp only[Cq0,Zg2,fin,Bq0,Zz,List.flatMap_nil,G8,Kf,UX]
     rfl
    exact⟨rfl,fun z=>by cases z⟩
   obtain⟨m1,m2⟩:=main;simp only[ZmX,ZO hq,Cq1,hg,Bq0];rw[m1];cases hbx:bC p x
   ·have:=hr (Qa (Jy (.cl x) B) fr,(Wc bd A env x).1,E++[(Wc bd A env x).2]) ⟨by simp;omega,m2 hbx⟩;rw[Qj V6];obtain⟨r1,r2⟩:=this;dsimp only at r1 r2;refine⟨?_,r2⟩;rw[Cq0,r1,Q4];rfl
   exact⟨rfl,fun z=>by cases z⟩
def ZB7(hF:10^19<=F)(hE:BE F I' R YC rl fl bd):∀n t,(pre (.pr t)).all UF=true->(pre (.pr t)).length<=n->n<=60->∀Fr,n<=Fr->TXg F I' R bd (loop Fr (Zd5 F YC rl fl)) t:=by
 intro n
 induction n with|zero=>intro t _ hn;have:=Y7 (.pr t);omega|succ n ih=>
   intro t hs hn h60 Fr hFr fr tk c env B Bn bad kk hc hcl hB hI;obtain⟨G,rfl⟩:∃G,Fr=G+1:=⟨Fr-1,by omega⟩
   rw[ZV]
   have hsz:(pre (.pr t)).length=((t.args.map Part.ex).flatMap pre).length+(((t.qK.map Part.cl).flatMap pre).length+((t.qQ.map Part.pr).flatMap pre).length)+1:=by
    rw[Qe];show((t.args.map Part.ex++t.qK.map Part.cl++t.qQ.map Part.pr).flatMap pre).length+1=_;rw[QQ,QQ,K1,K1];omega
   have hall:∀{x},x∈pre (.pr t)->(pre x).all UF=true:=fun hx=>by
    rw[KB]at hs ⊢;exact fun y hy=>hs y (Jt hy hx)
   have hnext:∀x,Part.pr x∈pre (.pr t)->(pre (.pr x)).length<=n->TXg F I' R bd (loop G (Zd5 F YC rl fl)) x:=fun x hx hl=>ih x (hall hx) hl V6 G V6
   generalize loop G (Zd5 F YC rl fl)=n1 at hnext;have hal:t.args.length<=((t.args.map Part.ex).flatMap pre).length:=by have:=Ww (t.args.map Part.ex);simpa using this
   have hkl:t.qQ.length<=((t.qQ.map Part.pr).flatMap pre).length:=by have:=Ww (t.qQ.map Part.pr);simpa using this
   have hk:∀(fr tk:MB)(c:U NM)(env:NM)(B Bn:U Y)(bad:Y->Z)(tx:Y)(args:U Zi)(ds:U Za),CE R c env B Bn bad->c.length+2*((t.qQ.map Part.pr).flatMap pre).length<F->B.length+12000*((t.qQ.map Part.pr).flatMap pre).length<=750000->I' (kk+12000*((t.qQ.map Part.pr).flatMap pre).length) tk ->
    KN F t n1 tx args ((fr,tk),c,ds)=some (bif bTs bad t.qQ then .Yq 7 else .ok ((Qa (t.qQ.flatMap fun k=>Jy (.pr k) B) fr,(Wts bd tk env t.qQ).1),Term.mk t.op tx args ds (Wts bd tk env t.qQ).2))/\(bTs bad t.qQ=false->I' kk (Wts bd tk env t.qQ).1):=fun fr tk c env B Bn bad tx args ds hc hcl hB hI=>by
    unfold KN;dsimp only
    have:=Za8 (body:=ZhM t n1 c tx args ds) (fun(q:Nat)(s:MB×MB×U Term)=>((q:Int),(s.1,s.2.1),s.2.2)) t.qQ
     (fun rest s=>s.2.2.length+rest.length<=70/\I' (kk+12000*((rest.map Part.pr).flatMap pre).length) s.2.1)
     (fun rest s r=>r=some (bif bTs bad rest then .Yq 7 else .ok ((Qa (rest.flatMap fun k=>Jy (.pr k) B) s.1,(Wts bd s.2.1 env rest).1),Term.mk t.op tx args ds (s.2.2++(Wts bd s.2.1 env rest).2)))/\(bTs bad rest=false->I' kk (Wts bd s.2.1 env rest).1)) (F:=F) ?_ ?_ V6 (fr,tk,[]) ⟨by simp;omega,hI⟩
    ·obtain⟨e,hi⟩:=this;dsimp only at e hi;rw[Jx]at e;exact⟨e,hi⟩
    ·rintro⟨fr,tk,acc⟩ nx' ⟨hp1,hp2⟩;dsimp only at hp1 hp2 ⊢;rw[ZbF,ZkR];refine⟨?_,fun _=>Zvh hE V6 hp2⟩;simp only[ZhM,ZI,Cq0,G8];rfl
    rintro q x rest ⟨fr,tk,acc⟩ nx' hx hq hg ⟨hp1,hp2⟩ hr;dsimp only at hp1 hp2 ⊢;rw[JT,Kf,K1]at hp2;simp only[Kd]at hp1;have hxl:=Wv (Gi (f:=Part.pr) hx);have hkx:=ZY (Y0 hx);obtain⟨e2,i2⟩:=hnext x (Yf (Y0 hx) (Yy _)) V6 fr tk c env B Bn bad (kk+12000*((rest.map Part.pr).flatMap pre).length) hc V6 V6 (Zvh hE V6 hp2);have fin:app 96 acc [(Wt bd tk env x).2]=some (acc++[(Wt bd tk env x).2]):=XY Vf V6;rw[Kf,K7,Zih,UX];dsimp only;simp only[ZhM,ZO hq,Cq1,hg,Bq0,e2];cases hbx:bT bad x
    ·have:=hr (Qa (Jy (.pr x) B) fr,(Wt bd tk env x).1,acc++[(Wt bd tk env x).2]) ⟨by simp;omega,i2 hbx⟩;obtain⟨r1,r2⟩:=this;dsimp only at r1 r2;refine⟨?_,r2⟩;simp only[Cq0,Zg2,fin,Bq0,Gk];rw[Qj V6,r1,Q4];rfl
    exact⟨rfl,fun z=>by cases z⟩
   have ha:∀(fr:MB)(tx:Y),ZcL F YC rl fl t n1 tk c (fr,tx)=(bif t.op==4 then(ZwH F t.qK).bind fun cp=>(app 16 cp.1 cp.2).bind fun names=>(YC tk c names (fl t)).bind fun bd=>(ZyP F YC rl n1 (bd.2::c) (notes B (t.args.flatMap nmE) fr,bd.1) t.qK).bind fun d=>UJ d (fun e=>some (.Yq e)) fun d=>KN F t n1 tx (t.args.map (KZ env)) (d.1,bd.2::c,d.2) else KN F t n1 tx (t.args.map (KZ env)) ((notes B (t.args.flatMap nmE) fr,tk),c,[])):=fun fr tx=>by
    unfold ZcL;dsimp only
    refine Z8 (body:=ZhN F YC rl fl t n1 tk c tx) (fun(q:Nat)(s:MB×U Zi)=>((q:Int),s.1,s.2)) t.args (fun rest s=>s.2.length+rest.length<=70)
     (fun rest s=>(bif t.op==4 then(ZwH F t.qK).bind fun cp=>(app 16 cp.1 cp.2).bind fun names=>(YC tk c names (fl t)).bind fun bd=>(ZyP F YC rl n1 (bd.2::c) (notes B (rest.flatMap nmE) s.1,bd.1) t.qK).bind fun d=>UJ d (fun e=>some (.Yq e)) fun d=>KN F t n1 tx (s.2++rest.map (KZ env)) (d.1,bd.2::c,d.2) else KN F t n1 tx (s.2++rest.map (KZ env)) ((notes B (rest.flatMap nmE) s.1,tk),c,[]))) (F:=F) ?_ ?_ V6 (fr,[]) Vf
    ·rintro⟨fr,acc⟩ nx' hp;simp only[ZhN,ZI,Cq0,GT,G8,List.flatMap_nil];rfl
    rintro q x rest ⟨fr,acc⟩ nx' hx hq hg hp hr;simp only[Kd]at hp;have hkx:=ZY (QV hx);have he:ZL0 F c fr x=some (notes B (nmE x) fr,KZ env x):=ZVE hF hc V6 n x fr (hall (Yf (QV hx) (Yy _))) V6 V6 F V6;have fin:app 56 acc [KZ env x]=some (acc++[KZ env x]):=XY Vf V6;simp only[ZhN,ZO hq,Cq1,hg,Bq0,he,fin];rw[Qj V6];refine(hr (notes B (nmE x) fr,acc++[KZ env x]) Vf).trans ?_;simp only[Kf,Zg7,JT,Q4,List.singleton_append]
   have hb:∀(fr:MB)(tx:Y),tx=tx0 env t.qJ->ZcL F YC rl fl t n1 tk c (fr,tx)=some (bif(bif t.op==4 then bCs (J6 bad (JM t.qK)) t.qK||bTs (J6 bad (JM t.qK)) t.qQ else bTs bad t.qQ) then .Yq 7 else .ok ((Qa (((t.args.flatMap nmE).map fun s=>(s,B))++(t.qK.flatMap (fun c=>Jy (.cl c) (bnd t B))++t.qQ.flatMap (fun k=>Jy (.pr k) (bnd t B)))) fr,(Wt bd tk env t).1),(Wt bd tk env t).2))/\((bif t.op==4 then bCs (J6 bad (JM t.qK)) t.qK||bTs (J6 bad (JM t.qK)) t.qQ else bTs bad t.qQ)=false->I' kk (Wt bd tk env t).1):=fun fr tx htx=>by
    rw[ha,UX,UX,ZvQ];by_cases h4:t.op=4
    ·have e4:(t.op==4)=true:=by rw[h4];rfl
     obtain⟨a,b,c'⟩:=ZeK V6 hs (Yy (.pr t));obtain⟨n1',n2'⟩:=Zec a b c';have hdl:(JM t.qK).length<=11040:=by unfold JM;rw[K1];omega
     have hbn:bnd t B=B++JM t.qK:=by unfold bnd;rw[e4];rfl
     have hin:inT bd tk env t=((bd tk env (JM t.qK) (.pr t)).1,ext env (JM t.qK) (bd tk env (JM t.qK) (.pr t)).2):=by unfold inT;rw[e4];rfl
     obtain⟨mb,hbb,hci,hIb⟩:=hE.t tk c env B Bn bad t (kk+12000*((t.qQ.map Part.pr).flatMap pre).length+12000*((t.qK.map Part.cl).flatMap pre).length) hc hcl hB hs V6 h4 hdl (Zvh hE V6 hI);rw[ZnH h4,hin,hbn,e4];simp only[Cq1];generalize bd tk env (JM t.qK) (.pr t)=bv at hbb hci hIb;obtain⟨tk1,to⟩:=bv;dsimp only at hbb hci hIb ⊢;generalize ext env (JM t.qK) to=en at hci ⊢;have a1:app 16 (Ue t.qK).1 (Ue t.qK).2=some (JM t.qK):=XY V6 V6;rw[ZFu hF t.qK a b c',Bq0,a1,Bq0,hbb,Bq0];dsimp only;have hBl:(B++JM t.qK).length<=B.length+11040:=by rw[K1];omega
     obtain⟨e1,i1⟩:=ZAP hF hE hci n1 n t.qK V6 V6 (fun y hy=>KB.1 hs y (by rw[pre_eq];refine Kx _ ?_;show y∈(t.args.map Part.ex++t.qK.map Part.cl++t.qQ.map Part.pr).flatMap pre;rw[QQ,QQ];exact GH _ (Gz _ hy)))
      (fun y hy=>by
        have hym:Part.pr y∈pre (.pr t):=by rw[pre_eq];refine Kx _ ?_;show _∈(t.args.map Part.ex++t.qK.map Part.cl++t.qQ.map Part.pr).flatMap pre;rw[QQ,QQ];exact GH _ (Gz _ hy)
        obtain⟨z,hz,hyz⟩:=G0.1 hy;obtain⟨d,hd,rfl⟩:=Ge.1 hz;have:=Jm hyz;have:=Wv hz;exact hnext y hym V6) (ZQ0 Bn) F V6 (notes B (t.args.flatMap nmE) fr) tk1 (kk+12000*((t.qQ.map Part.pr).flatMap pre).length) (by simp only[Kd];omega) V6 hIb
     unfold ZyP;rw[e1,Bq0];cases hbd:bCs (J6 bad (JM t.qK)) t.qK
     ·obtain⟨e2,i2⟩:=hk (Qa (t.qK.flatMap fun d=>Jy (.cl d) (B++JM t.qK)) (notes B (t.args.flatMap nmE) fr)) (Wcs bd tk1 en t.qK).1 (mb::c) en (B++JM t.qK) (Bn++JM t.qK) (J6 bad (JM t.qK)) tx (t.args.map (KZ env)) (Wcs bd tk1 en t.qK).2 hci (by simp only[Kd];omega) V6 (i1 hbd);refine⟨?_,i2⟩;simp only[Cq0,Zg2,Gk];rw[e2,htx]
     exact⟨rfl,fun z=>by cases z⟩
    have e4:(t.op==4)=false:=by simpa using h4
    have hbn:bnd t B=B:=by unfold bnd;rw[e4];rfl
    have hd0:t.qK=[]:=ZeA (KB.1 hs _ (Yy (.pr t))) h4;rw[Zis h4,hbn,e4,hd0];simp only[Cq0,List.flatMap_nil];obtain⟨e2,i2⟩:=hk (notes B (t.args.flatMap nmE) fr) tk c env B Bn bad tx (t.args.map (KZ env)) [] hc V6 V6 (Zvh hE V6 hI);refine⟨?_,i2⟩;rw[e2,htx];rfl
   rw[ZwN,ZMc];unfold Zd5;dsimp only;by_cases ht:t.qJ=E0
   ·have:decide (t.qJ=(⟨#[]⟩:Y))=true:=decide_eq_true ht;rw[this,if_pos ht];simp only[Q1,Cq0,Jx,Gp,Gk];exact hb fr E0 (by unfold tx0;rw[if_pos ht])
   have:decide (t.qJ=(⟨#[]⟩:Y))=false:=decide_eq_false ht;rw[this,if_neg ht];simp only[G9,Cq1,G3];rw[Zsh t.qJ fr c V6 hc,Bq0];cases hbx:bad t.qJ
   ·simp only[Gk];exact hb (note fr B t.qJ) (tx1 env t.qJ) (by unfold tx0;rw[if_neg ht])
   exact⟨rfl,fun z=>by cases z⟩
def Zb1{m:Type}[DecidableEq m](p:m×q)(l:U (m×q))(k:m):ZQ (p::l) k=if p.1=k then some p.2 else ZQ l k:=by
 unfold ZQ;rw[Yt];by_cases h:p.1=k;.rw[if_pos h,if_pos h];rfl
 rw[if_neg h,if_neg h];cases Yt l k<;>rfl
def Zb3{m p:Type}[DecidableEq m](l r:U (m×p))(k:m):ZQ (l++r) k=match ZQ l k with|some v=>some v|none=>ZQ r k:=by cases h:ZQ l k with|some v=>exact Zb2 h|none=>exact KE h
def ZdI{m r:Type}[DecidableEq m]{l:U (m×r)}{k:m}{v:r}(h:ZQ l k=some v):(k,v)∈l:=by
 induction l with|nil=>cases h|cons p l ih=>
   rw[Zb1]at h;by_cases q:p.1=k;.rw[if_pos q]at h;cases h;subst q;exact GA
   rw[if_neg q]at h;exact Kx _ (ih h)
def Zbv{m:Type}[DecidableEq m]{l:U (m×q)}{k:m}:(ZQ l k).isSome=true↔k∈l.map (·.1):=by
 induction l with|nil=>simp[ZQ,Yt]|cons p l ih=>
   rw[Zb1];by_cases h:p.1=k;.rw[if_pos h];simp[h]
   rw[if_neg h,ih];simp[Ne.symm h]
def zip_fst{m β:Type}:∀(l:U m)(r:U β),l.length=r.length->(l.zip r).map (·.1)=l
 | [],_,_=>rfl
 | x::l,[],h=>by cases h
 | x::l,y::r,h=>by rw[List.zip_cons_cons,JT,zip_fst l r (by simpa using h)]
def ZxX(x:Y):(pre (.ex (nam x))).length=1:=by rw[Qe];rfl
def ext_get{l h:U Y}(t:l.length=h.length)(env:NM)(x:Y):(x∈l/\∃y∈h,ZQ (ext env l h) x=some (nam y))\/(x∉l/\ZQ (ext env l h) x=ZQ env x):=by
 have m:(ZQ ((l.zip h).map fun p=>(p.1,nam p.2)).reverse x).isSome=true↔x∈l:=by
  rw[Zbv,List.map_reverse,List.mem_reverse,List.map_map];show x∈(l.zip h).map (·.1)↔_;rw[zip_fst l h t]
 unfold ext;rw[Zb3];cases r:ZQ ((l.zip h).map fun p=>(p.1,nam p.2)).reverse x with
 | none=>
   rw[r]at m;exact .inr ⟨by simpa using m,rfl⟩
 | some v=>
   rw[r]at m;have:=ZdI r;rw[List.mem_reverse,Ge]at this;have⟨q,hq,e⟩:=this;cases e;exact .inl ⟨m.1 rfl,q.2,(List.of_mem_zip hq).2,rfl⟩
def ZxB{c:U NM}{D:U Y}{t:Y->Z}(h:CE R c env B D t){l r:U Y}(A:l.length=r.length){m:NM}(F:∀x,ZQ m x=ZQ ((l.zip r).map fun p=>(p.1,nam p.2)).reverse x)(E:R (m::c) (ext env l r)):CE R (m::c) (ext env l r) (B++l) (D++l) (J6 t l):=by
 refine⟨fun x=>?_,fun x e he=>?_,fun x=>?_,fun x=>?_,fun x C=>?_,E⟩;.unfold ext ZAS;rw[Zb3,F x,h.get x];cases ZQ ((l.zip r).map fun p=>(p.1,nam p.2)).reverse x<;>rfl
 .rcases ext_get A env x with⟨_,y,_,q⟩|⟨_,q⟩
  .rw[q]at he;cases he;rw[ZxX];omega
  rw[q]at he;exact h.sz x e he
 .rw[J0,h.b x];rcases ext_get A env x with⟨h1,y,_,q⟩|⟨h1,q⟩
  .rw[q];simp[h1]
  rw[q];simp[h1]
 .unfold J6;rcases ext_get A env x with⟨h1,y,_,q⟩|⟨h1,q⟩
  .rw[q,decide_eq_true h1];constructor;.intro z;simp at z
   rintro⟨e,he,h2⟩;cases he;exact absurd rfl h2
  rw[q,decide_eq_false h1];simpa using h.bd x
 rw[J0]at C ⊢;unfold J6;by_cases h1:x∈l;.exact⟨.inr h1,by rw[decide_eq_true h1];simp⟩
 have⟨z1,z2⟩:=h.nb x (C.resolve_right h1);exact⟨.inl z1,by rw[z2];rfl⟩
def ZjB(l:U Y)(x:Y):ZQ (bindM l []) x=ZQ ((l.zip l).map fun p=>(p.1,nam p.2)).reverse x:=by
 rw[ZjA]
 have:∀l:U Y,(l.zip l).map (fun p=>(p.1,nam p.2))=l.map fun y=>(y,nam y):=by
  intro l;induction l with|nil=>rfl|cons y l ih=>rw[List.zip_cons_cons,JT,ih];rfl
 rw[this];by_cases h:x∈l
 .rw[if_pos h]
  have:(ZQ (l.map fun y=>(y,nam y)).reverse x).isSome=true:=by
   rw[Zbv,List.map_reverse,List.mem_reverse,List.map_map];exact Ge.2 ⟨x,h,rfl⟩
  cases m:ZQ (l.map fun y=>(y,nam y)).reverse x with|none=>rw[m]at this;cases this|some v=>
    have:=ZdI m;rw[List.mem_reverse,Ge]at this;have⟨q,_,e⟩:=this;cases e;rfl
 rw[if_neg h];cases m:ZQ (l.map fun y=>(y,nam y)).reverse x with|none=>rfl|some v=>
   have:=ZdI m;rw[List.mem_reverse,Ge]at this;have⟨q,hq,e⟩:=this;cases e;exact absurd hq h
def bdI{σ:Type}:BF σ:=fun s _ l _=>(s,l)
def ZWV(m:10^19<=F)(x:Za->U Y->O MB)(A:Term->O MB):BE F (fun _ _=>True) (fun _ _=>True) (ZcU F) x A bdI where
 mono:=fun _ _ _ _=>trivial
 t:=fun q c env B C l t k h _ _ _ _ _ y _=>⟨bindM (JM t.qK) [],by unfold ZcU;rw[bind_eq m _ V6];rfl,ZxB h rfl (ZjB _) trivial,trivial⟩
 r:=fun q c env B C l p k h _ _ _ _ _ y _=>⟨bindM (Zz p.qG) [],by unfold ZcU;rw[bind_eq m _ V6];rfl,ZxB h rfl (ZjB _) trivial,trivial⟩
def IdE(env:NM):Prop:=∀x e,ZQ env x=some e->e=nam x
def ZkW(h:IdE env)(l:U Y):IdE (ext env l l):=fun x e he=>by
 unfold ext at he;rw[Zb3,<-ZjB,ZjA]at he;by_cases m:x∈l
 .rw[if_pos m]at he;cases he;rfl
 rw[if_neg m]at he;simp only[ZQ,Yt,Option.map_none]at he;exact h x e he
def ZKE:IdE []:=fun x e he=>by cases he
def Zp6(h:IdE env)(x:Y):tx1 env x=x:=by unfold tx1;cases l:ZQ env x with|none=>rfl|some e=>rw[h x e l];rfl
def ZB3(h:IdE env)(x:Y):tx0 env x=x:=by
 unfold tx0;split;next e=>exact e.symm
 exact Zp6 h x
def ZP3(h:IdE env):∀n e,(pre (.ex e)).all UF=true->(pre (.ex e)).length<=n->KZ env e=e:=by
 intro n
 induction n with|zero=>intro e _ hn;have:=Y7 (.ex e);omega|succ n ih=>
   intro e p hn;have l:KU e=true:=KB.1 p _ (Yy _);rw[Zrk];cases h2:e.op==2
   .have:e.qQ.map (KZ env)=e.qQ:=by
     conv=>rhs;rw[<-List.map_id e.qQ]
     exact List.map_congr_left fun x q=>ih x (by rw[KB]at p ⊢;exact fun y t=>p y (Yf (Xd q) t)) (by have:=ZY (Xd q);omega)
    rw[this];show Zi.mk e.op e.n e.qJ e.qQ=e;cases e;rfl
   cases A:ZQ env e.qJ with|none=>rfl|some y=>
     have m:e.op=2:=by simpa using h2
     have r:e.qQ=[]/\e.n=0:=by
      unfold KU at l;rw[m]at l;simp only[Int.reduceBEq,Cq1,Cq0,Ba0,beq_iff_eq]at l;exact⟨Gd l.2,l.1.2⟩
     rw[h _ _ A];have⟨op,nn,tx,ks⟩:=e;simp only at m r;obtain⟨rfl,rfl⟩:=r;subst m;rfl
def ZL2(t:Term):Term.mk t.op t.qJ t.args t.qK t.qQ=t:=by cases t;rfl
def ZL3(t:Za):Za.mk t.qV t.qJ t.qG t.qK t.qQ=t:=by cases t;rfl
def Z1v{F:Type}:∀n,(∀t,(pre (.pr t)).all UF=true->(pre (.pr t)).length<=n->∀(s:F) env,IdE env->Wt bdI s env t=(s,t))/\(∀c,(pre (.cl c)).all UF=true->(pre (.cl c)).length<=n->∀(s:F) env,IdE env->Wc bdI s env c=(s,c)):=by
 intro n;induction n with
 | zero=>exact⟨fun t _ hn=>by have:=Y7 (.pr t);omega,fun t _ hn=>by have:=Y7 (.cl t);omega⟩
 | succ n ih=>
   have A:∀(l:U Term),(∀x∈l,(pre (.pr x)).all UF=true/\(pre (.pr x)).length<=n)->∀(s:F) env,IdE env->Wts bdI s env l=(s,l):=by
    intro l
    induction l with|nil=>intro _ s env _;rw[ZbF]|cons x l B=>
      intro h s env he;have q:=h x Vd;rw[K7,ih.1 x q.1 q.2 s env he,B (fun y D=>h y (Kx _ D)) s env he]
   have E:∀(l:U Za),(∀x∈l,(pre (.cl x)).all UF=true/\(pre (.cl x)).length<=n)->∀(s:F) env,IdE env->Wcs bdI s env l=(s,l):=by
    intro l
    induction l with|nil=>intro _ s env _;rw[ZaK]|cons x l B=>
      intro h s env he;have q:=h x Vd;rw[Zcl,ih.2 x q.1 q.2 s env he,B (fun y D=>h y (Kx _ D)) s env he]
   have sub:∀{p k:Part},(pre p).all UF=true->(pre p).length<=n+1->k∈Ya p->(pre k).all UF=true/\(pre k).length<=n:=fun r hn P=>⟨by rw[KB]at r ⊢;exact fun y D=>r y (Yf P D),by have:=ZY P;omega⟩;constructor
   .intro t r hn s env he
    have S:t.args.map (KZ env)=t.args:=by
     conv=>rhs;rw[<-List.map_id t.args]
     exact List.map_congr_left fun x q=>ZP3 he n x (sub r hn (QV q)).1 (sub r hn (QV q)).2
    by_cases G:t.op=4
    .have C:inT bdI s env t=(s,ext env (JM t.qK) (JM t.qK)):=by unfold inT;rw[G];rfl
     rw[ZnH G,C];rw[E t.qK (fun x q=>sub r hn (YP q)) s _ (ZkW he _)];rw[A t.qQ (fun x q=>sub r hn (Y0 q)) s _ (ZkW he _),S,ZB3 he,ZL2]
    have K:t.qK=[]:=ZeA (KB.1 r _ (Yy (.pr t))) G;rw[Zis G,A t.qQ (fun x q=>sub r hn (Y0 q)) s env he,S,ZB3 he];rw[<-K,ZL2]
   intro c r hn s env he;have L:U9 c=true:=KB.1 r _ (Yy _);by_cases h2:c.qV=2
   .rw[Zer h2,E c.qK (fun x q=>sub r hn (Yw q)) s env he];rw[A c.qQ (fun x q=>sub r hn (Y5 q)) s env he,Zp6 he]
    have I:c.qG=[]:=by
     rcases(ZbI L).2 with h|h
     .omega
     exact h.2
    rw[<-I,ZL3]
   have Q:c.qV=1:=by
    rcases(ZbI L).2 with h|h
    .exact h
    exact absurd h.1 h2
   have⟨ht,hd⟩:=ZeE L Q;have C:inC bdI s env c=(s,ext env (Zz c.qG) (Zz c.qG)):=by unfold inC;rw[Q];rfl
   have T:c.qG.map (Zcx env (ext env (Zz c.qG) (Zz c.qG)))=c.qG:=by
    conv=>rhs;rw[<-List.map_id c.qG]
    refine List.map_congr_left fun m V=>?_;unfold Zcx;rw[Zp6 he]
    have:m.names.map (tx1 (ext env (Zz c.qG) (Zz c.qG)))=m.names:=by
     conv=>rhs;rw[<-List.map_id m.names]
     exact List.map_congr_left fun x _=>Zp6 (ZkW he _) x
    rw[this];rfl
   rw[Zit h2,C];rw[A c.qQ (fun x q=>sub r hn (Y5 q)) s _ (ZkW he _),T];rw[<-ht,<-hd,ZL3]
def ZGu:CE (fun _ _=>True) [[]] [] [] [] (fun _=>false):=⟨fun x=>rfl,fun x e he=>(by cases he),fun x=>by simp[ZQ,Yt],fun x=>⟨fun z=>(by cases z),fun⟨e,he,_⟩=>(by cases he)⟩,fun x h=>(by cases h),trivial⟩
def Zzm:∀n,(∀t,(pre (.pr t)).length<=n->∀m,(∀x,m x=false)->bT m t=false)/\(∀c,(pre (.cl c)).length<=n->∀m,(∀x,m x=false)->bC m c=false):=by
 intro n;induction n with
 | zero=>exact⟨fun t hn=>by have:=Y7 (.pr t);omega,fun t hn=>by have:=Y7 (.cl t);omega⟩
 | succ n ih=>
   have A:∀(l:U Term),(∀x∈l,(pre (.pr x)).length<=n)->∀m,(∀x,m x=false)->bTs m l=false:=by
    intro l;induction l with|nil=>intro _ m _;rw[ZkR]|cons x l B=>intro h m q;rw[Zih,ih.1 x (h x Vd) m q,B (fun y D=>h y (Kx _ D)) m q];rfl
   have C:∀(l:U Za),(∀x∈l,(pre (.cl x)).length<=n)->∀m,(∀x,m x=false)->bCs m l=false:=by
    intro l;induction l with|nil=>intro _ m _;rw[ZrL]|cons x l B=>intro h m q;rw[ZuX,ih.2 x (h x Vd) m q,B (fun y D=>h y (Kx _ D)) m q];rfl
   have p:∀(m:Y->Z) l,(∀x,m x=false)->∀x,J6 m l x=false:=fun m l h x=>by unfold J6;rw[h x];rfl
   constructor;.intro t hn m q;rw[ZMc,q,C t.qK (fun x r=>by have:=ZY (YP r);omega) _ (p m _ q),A t.qQ (fun x r=>by have:=ZY (Y0 r);omega) _ (p m _ q),A t.qQ (fun x r=>by have:=ZY (Y0 r);omega) _ q];simp
   intro c hn m q;rw[ZFN,C c.qK (fun x r=>by have:=ZY (Yw r);omega) _ q,A c.qQ (fun x r=>by have:=ZY (Y5 r);omega) _ q,A c.qQ (fun x r=>by have:=ZY (Y5 r);omega) _ (p m _ q)];simp
def Zwp(m:10^19<=F)(t:Term)(l:(pre (.pr t)).all UF=true)(hn:(pre (.pr t)).length<=60):ZEU F t=some (Qa (Jy (.pr t) []) [])/\ZVC F t=some t:=by have h:=(ZB7 m (ZWV m (fun _ _=>none) (fun _=>none)) 60 t l hn V7 F V6 [] [] [[]] [] [] [] _ 0 ZGu (by simp[Kd,GF];omega) Vf trivial).1;rw[(Z1v 60).1 t l hn [] [] ZKE,(Zzm 60).1 t hn _ fun _=>rfl]at h;have p:Zm4 F (ZcU F) (fun _ _=>none) (fun _=>none) (([],[]),[[]],t)=_:=h;unfold ZEU ZVC;rw[p];exact⟨rfl,rfl⟩
def Zo5{p:Type}(m:U (Y×p))(x:Y)(v:p):(Xh m x v).map (·.1)=if x∈m.map (·.1) then m.map (·.1) else m.map (·.1)++[x]:=by
 have h:=Zbv (l:=m) (k:=x);unfold ZQ at h;unfold Xh;cases e:Yt m x with
 | none=>
   rw[e]at h;rw[if_neg (by rw[<-h];simp)];simp
 | some q=>
   rw[e]at h;rw[if_pos (h.1 rfl)];have t:=Zcy e;apply GO;intro i;simp[GD,List.getElem?_modify];by_cases r:q.1=i;.subst r;rw[t];show Option.map _ (some (if q.1=q.1 then(x,v) else(x,q.2)))=_;rw[if_pos rfl];rfl
   cases m[i]?<;>simp[r]
def ZAo(fr:MB)(e:Evt):(note fr e.2 e.1).map (·.1)=if e.1∈e.2\/e.1∈fr.map (·.1) then fr.map (·.1) else fr.map (·.1)++[e.1]:=by
 unfold note;by_cases h1:e.1∈e.2;.rw[if_pos h1,if_pos (.inl h1)]
 rw[if_neg h1,Zo5];by_cases h2:e.1∈fr.map (·.1);.rw[if_pos h2,if_pos (.inr h2)]
 rw[if_neg h2,if_neg (by simp[h1,h2])]
def Zbs:∀(l:U Evt)(fr:MB),(fr.map (·.1)).Nodup->((Qa l fr).map (·.1)).Nodup/\(∀x,x∈(Qa l fr).map (·.1)↔x∈fr.map (·.1)\/∃e∈l,x=e.1/\e.1∉e.2)/\(Qa l fr).length<=fr.length+l.length
 | [],fr,h=>⟨h,fun x=>by simp[Qa],K2 _⟩
 | e::l,fr,h=>by
   have p:=ZAo fr e
   have hn:((note fr e.2 e.1).map (·.1)).Nodup:=by
    rw[p];by_cases m:e.1∈e.2\/e.1∈fr.map (·.1);.rw[if_pos m];exact h
    rw[if_neg m,List.nodup_append];refine⟨h,by simp,fun a y b t=>?_⟩;rw[Gf.1 t];exact fun e=>m (.inr (e▸y))
   have⟨i1,i2,i3⟩:=Zbs l (note fr e.2 e.1) hn;refine⟨i1,fun x=>(i2 x).trans ?_,?_⟩
   .have r:x∈(note fr e.2 e.1).map (·.1)↔x∈fr.map (·.1)\/(x=e.1/\e.1∉e.2):=by
     rw[p];by_cases m:e.1∈e.2\/e.1∈fr.map (·.1)
     .rw[if_pos m];refine⟨.inl,fun h=>h.elim id fun h=>?_⟩;rcases m with m|m
      .exact absurd m h.2
      exact h.1▸m
     rw[if_neg m,J0,Gf];exact⟨fun h=>h.imp id fun e=>⟨e,fun z=>m (.inl z)⟩,fun h=>h.imp id fun e=>e.1⟩
    rw[r];constructor
    .rintro((h|h) | ⟨q,he,h⟩);.exact .inl h
     .exact .inr ⟨e,by simp,h⟩
     exact .inr ⟨q,by simp[he],h⟩
    rintro(h|⟨q,he,h⟩);.exact .inl (.inl h)
    rcases Ks.1 he with rfl|he
    .exact .inl (.inr h)
    exact .inr ⟨q,he,h⟩
   have:(note fr e.2 e.1).length<=fr.length+1:=by
    have:=congrArg List.length p;rw[QP]at this;rw[this];split<;>simp
   show(Qa l (note fr e.2 e.1)).length<=_;simp[Kd];omega
def Zmi(t:Term):U Y:=JQ (Jy (.pr t) []) []
end Go.Proofs.YtbnepjakjmnadaaGreat
end
noncomputable section
namespace Go.Z9
variable{P:GW}{W:GY}{E:Type}
def ZqS(P:GW)(T:U J)(t:J):Z:=
 match P.underlying t with
 | some .bool=>true
 | some (.int _)=>true
 | some .string=>true
 | some (.slice e)=>T.contains e&&Nat.ble 1 (P.cellsOf e)
 | some (.struct fs)=>fs.toList.all (fun x=>T.contains x.type)&&ZcS P fs.toList 0 (P.cellsOf t)
 | _=>false
def ZVH{enc:J×N->E}{T:U J}(hT:T.all (ZqS P T)=true):∀(B:Nat)(t:J)(cs:U N)(d:DataW E)(ps:U MemPlace),T.contains t=true->DataW.trod enc P W 0 (fun _=>true) true B t cs=some (d,ps)->ZpT P W t cs d:=by
 intro B
 induction B with|zero=>intro t cs d ps _ h;unfold DataW.trod at h;cases h|succ B ih=>
   intro t cs d ps Q h;have Q:ZqS P T t=true:=(KB.1 hT) t (GL.1 Q);unfold ZqS at Q;unfold DataW.trod at h;cases hu:P.underlying t with|none=>rw[hu]at Q;cases Q|some u=>
     rw[hu]at Q h;cases u with
     | bool=>
       split at h<;>try (first | (cases h;done) | (have p:=‹some TypeDesc.bool=some _›;cases p;done))
       cases h;exact Ze5 rfl fun h=>.bool hu
     | int k=>
       split at h<;>try (first | (cases h;done) | (have p:=‹some (TypeDesc.int k)=some _›;cases p;done))
       rename_i hk;cases hk;split at h
       ·rename_i hw;cases h;obtain⟨rfl,hw⟩:=hw;exact Ze5 rfl fun h=>.int hu hw
       cases h
     | string=>
       split at h<;>try (first | (cases h;done) | (have p:=‹some TypeDesc.string=some _›;cases p;done))
       split at h
       ·rename_i hw;cases h;exact Ze5 rfl fun h=>.string hu hw
       cases h
     | slice e=>
       rw[Ba0]at Q;have hsz:=Nl0 Q.2;split at h<;>try (first | (cases h;done) | (have p:=‹some (TypeDesc.slice e)=some _›;cases p;done))
       ·cases h;exact Ze5 rfl fun h=>.nil hu
       rename_i e' a len cap he;cases he;dsimp only at h;split at h
       ·rename_i hc;obtain⟨-,hlc,hcm⟩:=hc;rw[Option.bind_eq_some_iff]at h;obtain⟨m,e1,h⟩:=h;rw[if_pos rfl,Option.map_eq_some_iff]at h;obtain⟨rest,e2,h⟩:=h;cases h;obtain⟨l1,g1⟩:=Zha e1;obtain⟨l2,g2⟩:=Zha e2;rw[List.length_range]at l1 l2;by_cases hcap:cap=0
        ·subst hcap;have K:len=0:=V6
         subst K;cases m with|cons _ _=>simp at l1|nil=>
           cases rest with|cons _ _=>simp at l2|nil=>
             intro ρ h hr hn;exact⟨ρ,h,_,Ren.le_refl ρ,Grow.refl h,hr,hn,LR.single (.U8 a),.empty hu⟩
        have hel:∀i,i<len->∃cs x,W.cells? 0 (a.add (i*P.cellsOf e)) (P.cellsOf e)=some cs/\DataW.trod enc P W 0 (fun _=>true) true B e cs=some x/\m[i]? =some x:=by
         intro i D;have p:i<m.length:=V6
         have:=g1 i i m[i] (by simp[D]) (by simp[p]);rw[Option.bind_eq_some_iff]at this;obtain⟨cs,V,G⟩:=this;exact⟨cs,_,V,G,by simp[p]⟩
        have h0:∃cs,W.cells? 0 a (P.cellsOf e)=some cs:=by
         have ha:a.add (0*P.cellsOf e)=a:=by rw[Nat.zero_mul];unfold Addr.add;rw[if_pos rfl]
         rcases Nat.eq_zero_or_pos len with hl|hl
         ·subst hl;have p:0<rest.length:=V6
          have:=g2 0 0 rest[0] (by rw[List.getElem?_range V6]) (by simp[p]);rw[Option.bind_eq_some_iff]at this;obtain⟨cs,V,G⟩:=this;rw[Nat.add_zero,ha]at V;exact⟨cs,V⟩
         obtain⟨cs,_,q,_⟩:=hel 0 hl;rw[ha]at q;exact⟨cs,q⟩
        have hcs:∀i,i<len->W.cells? 0 (a.add (i*P.cellsOf e)) (P.cellsOf e)=some ((W.cells? 0 (a.add (i*P.cellsOf e)) (P.cellsOf e)).getD []):=by
         intro i D;obtain⟨cs,_,q,_⟩:=hel i D;rw[q];rfl
        generalize ZY3:(fun i=>(W.cells? 0 (a.add (i*P.cellsOf e)) (P.cellsOf e)).getD [])=css;have hcs:∀i,i<len->W.cells? 0 (a.add (i*P.cellsOf e)) (P.cellsOf e)=some (css i):=fun i D=>by rw[<-ZY3];exact hcs i D
        obtain⟨hsp,c,el,fz,hb,hlim,hcell⟩:=ZwO hsz h0 hcs
        have S:∀i y,((List.range len).map fun i=>(e,css i,((m[i]?).map (·.1)).getD .nil))[i]? =some y->i<len/\y=(e,css i,((m[i]?).map (·.1)).getD .nil):=by
         intro i y I;rw[GD]at I;rcases Gl i len with q|q
         ·rw[List.getElem?_range q]at I;exact⟨q,(Oi0 I).symm⟩
         rw[G7 (by simpa using q)]at I;cases I
        generalize hl:(List.range len).map (fun i=>(e,css i,((m[i]?).map (·.1)).getD .nil))=l at S;have hll:l.length=len:=by rw[<-hl];simp
        have hm:l.map (·.2.2)=m.map (·.1):=by
         apply GO;intro i;rw[<-hl,List.map_map,GD,GD];rcases Gl i len with q|q
         ·rw[List.getElem?_range q];obtain⟨_,x,_,_,G⟩:=hel i q;simp[G]
         rw[G7 (by simpa using q),G7 V6];rfl
        have hlE:∀x∈l,ZpT P W x.1 x.2.1 x.2.2:=by
         intro x p;obtain⟨i,D⟩:=GB p;obtain⟨X,rfl⟩:=S i x D;obtain⟨cs,y,V,G,q3⟩:=hel i X;rw[hcs i X]at V;cases V;rw[q3];exact ih e _ _ y.2 Q.1 G
        intro ρ h hr hn;obtain⟨ρ1,h1,r,p1,p2,p3,p4,p5,p6,p7⟩:=Zrv l hlE ρ h hr hn
        have hec:∀(i:Nat)(x:U N×DataW E),r[i]? =some x->i<len/\LR ρ1 x.1 (css i)/\x.1.length=P.cellsOf e/\AR P h1 e x.1 x.2:=by
         intro i x p;have D:i<r.length:=(Li0 p).1;have X:i<l.length:=V6
         obtain⟨q,I⟩:=S i l[i] (by simp[X]);have:=p7 i x l[i] p (by simp[X]);rw[I]at this;refine⟨q,this.1,?_,this.2⟩;rw[this.1.1];exact(Zjz (hcs i q) hsz).1
        have C:∀x∈r,x.1.length=P.cellsOf e:=fun x p=>by
         obtain⟨i,D⟩:=GB p;exact(hec i x D).2.2.1
        obtain⟨r1,r2,r3,r4⟩:=ZHk (cs:=r.flatMap (·.1)) p3 p4 hb (by rw[Zht r C,p6,hll];exact hlim) (by
         intro k v v' k1 k2
         have hk:k<r.length*P.cellsOf e:=by
          rw[<-Zht r C];exact(Li0 k1).1
         have hd:k / P.cellsOf e*P.cellsOf e+k % P.cellsOf e=k:=by rw[Nat.mul_comm];exact Nat.div_add_mod _ _
         have hj:k % P.cellsOf e<P.cellsOf e:=Nat.mod_lt _ hsz;rw[<-hd,flat_get r C _ _ hj,Option.bind_eq_some_iff]at k1;obtain⟨x,x1,x2⟩:=k1;obtain⟨y1,y2,_,_⟩:=hec _ x x1;obtain⟨u,z1,z2⟩:=hcell _ _ y1 hj;rw[hd,k2]at z1;cases z1;exact y2.2 _ _ _ x2 z2)
        refine⟨_,_,[.slice (some ⟨h1.size,0,none⟩) r.length (2*cap)],Ren.le_trans p1 r1,p2.trans r2,r3,r4,LR.single ?_,?_⟩
        ·obtain⟨blk,off,spot⟩:=a;dsimp only at hsp;subst hsp;have ZYV:r.length=len:=V6
         rw[ZYV];exact VR.slice 0 len (2*cap) cap (Ren.add_same _ _ _ _) ⟨KK hcm (by decide),by rw[if_pos V6];omega⟩
        rw[<-hm,<-p5]
        exact .slice hu V6 hcm (by rw[H.QZ,if_pos rfl]) C fun x p=>by
         obtain⟨i,D⟩:=GB p;exact((hec i x D).2.2.2).grow r2
       cases h
     | struct F=>
       rw[Ba0]at Q;dsimp only at h;split at h
       ·rename_i K;rw[Option.map_eq_some_iff]at h;obtain⟨xs,e1,h⟩:=h;cases h;obtain⟨l1,g1⟩:=Zha e1
        have S:∀(i:Nat)(y:J×U N×DataW E),(List.zipWith (fun(f:Field)(x:DataW E×U MemPlace)=>(f.type,(cs.drop f.offset).take (P.cellsOf f.type),x.1)) F.toList xs)[i]? =some y ->
         ∃(f:Field) (x:DataW E×U MemPlace),F.toList[i]? =some f/\xs[i]? =some x/\y=(f.type,(cs.drop f.offset).take (P.cellsOf f.type),x.1):=by
         intro i y I;rw[List.getElem?_zipWith]at I;split at I
         ·rename_i f x A p;exact⟨f,x,A,p,(Oi0 I).symm⟩
         cases I
        generalize hl:List.zipWith (fun(f:Field)(x:DataW E×U MemPlace)=>(f.type,(cs.drop f.offset).take (P.cellsOf f.type),x.1)) F.toList xs=l at S;have hll:l.length=F.toList.length:=by rw[<-hl,List.length_zipWith,l1];exact Nat.min_self _
        have L:∀(i:Nat)(f:Field),F.toList[i]? =some f->∃x,xs[i]? =some x/\l[i]? =some (f.type,(cs.drop f.offset).take (P.cellsOf f.type),x.1)/\DataW.trod enc P W 0 (fun _=>true) true B f.type ((cs.drop f.offset).take (P.cellsOf f.type))=some x:=by
         intro i f A;have D:i<xs.length:=by rw[l1];exact(Li0 A).1
         have p:xs[i]? =some xs[i]:=by simp[D]
         refine⟨xs[i],p,?_,g1 i f _ A p⟩;rw[<-hl,List.getElem?_zipWith,A,p]
        have hm:l.map (·.2.2)=xs.map (·.1):=by
         apply GO;intro i;rw[GD,GD];cases A:F.toList[i]? with
         | some f=>
           obtain⟨x,V,G,_⟩:=L i f A;rw[V,G];rfl
         | none=>
           have:=List.getElem?_eq_none_iff.1 A;rw[G7 V6,G7 V6];rfl
        have hlE:∀x∈l,ZpT P W x.1 x.2.1 x.2.2:=by
         intro y I;obtain⟨i,D⟩:=GB I;obtain⟨f,x,A,p,rfl⟩:=S i y D;have hgf:=(KB.1 Q.1) f (List.mem_of_getElem? A);exact ih f.type _ _ x.2 hgf (g1 i f x A p)
        have hseg:cs=l.flatMap (·.2.1):=by
         have:=ZAE (P:=P) (cs:=cs) F.toList 0 (by rw[K];exact Q.2);rw[List.drop_zero]at this
         have h3:l.map (·.2.1)=F.toList.map fun(f:Field)=>(cs.drop f.offset).take (P.cellsOf f.type):=by
          apply GO;intro i;rw[GD,GD];cases A:F.toList[i]? with
          | some f=>
            obtain⟨x,V,G,_⟩:=L i f A;rw[G];rfl
          | none=>
            have:=List.getElem?_eq_none_iff.1 A;rw[G7 V6];rfl
         rw[List.flatMap_def,h3,<-List.flatMap_def];exact this
        intro ρ h hr hn;obtain⟨ρ1,h1,r,p1,p2,p3,p4,p5,p6,p7⟩:=Zrv l hlE ρ h hr hn
        have hlr:LR ρ1 (r.flatMap (·.1)) cs:=by
         rw[hseg];exact LR.flat r l p6 fun i x y e1 e2=>(p7 i x y e1 e2).1
        refine⟨ρ1,h1,r.flatMap (·.1),p1,p2,p3,p4,hlr,?_⟩;rw[<-hm,<-p5];refine .struct hu V6 (fun i x f p A=>?_) fun i x f p A=>?_
        ·obtain⟨y,V,G,_⟩:=L i f A;rw[(p7 i x _ p G).1.1];have hmem:ZcS P F.toList 0 cs.length=true:=by rw[K];exact Q.2
         obtain⟨c1,c2⟩:=ZwW _ _ _ hmem;have c3:=c2 i f A;have D:=(Li0 A).1
         have c4:((F.toList.take i).map fun f=>P.cellsOf f.type).sum+P.cellsOf f.type+((F.toList.drop (i+1)).map fun f=>P.cellsOf f.type).sum=(F.toList.map fun f=>P.cellsOf f.type).sum:=by
          have:F.toList=F.toList.take i++f::F.toList.drop (i+1):=by
           have h5:F.toList[i]=f:=(Li0 A).2;rw[<-h5,List.getElem_cons_drop,List.take_append_drop]
          conv=>rhs;rw[this]
          simp[GQ,JT,List.sum_append,List.sum_cons];omega
         dsimp only;rw[Gt,GC];omega
        obtain⟨y,V,G,_⟩:=L i f A;exact(p7 i x _ p G).2
       cases h
     | _=>cases Q
section
open Go.Lf
def ZvH{r:Type}{e:WG r}{B:r->Prop}{h:H}{l:U (U N×DataW E)}{i cap:Nat}(C:l.length<=cap)(q:cap<=maxLen)(A:h.at i=.row (l.flatMap (·.1)) false 0)(m:∀x∈l,x.1.length=e.sz)
 (t:∀x∈l,∃p y,x.1=e.sh p y/\B y/\∀L,e.F L h p y):
 ∃(p:O Addr×Nat) (ys:U r),[Value.slice (some ⟨i,0,none⟩) l.length (2*cap)]=(Yz e).sh p ys/\(∀y∈ys,B y)/\∀L,(Yz e).F L h p ys:=by
 have⟨ys,h1,hv,h2⟩:=Zej (e:=e) l t;refine⟨(some ⟨i,0,none⟩,2*cap),ys,by show [Value.slice _ _ _]=[Value.slice _ _ _];rw[h1],hv,fun L=>⟨?_,?_,.inr (.inr ⟨_,_,rfl⟩),.inr ⟨i,0,_,false,0,rfl,A,.inr rfl,?_,fun k y D=>?_⟩⟩⟩;.rw[h1];exact KK (KK C q) (by decide)
 .rw[h1];omega
 .rw[h1,G6,Zht l m];exact K2 _
 have⟨x,p,q1,q2,q3⟩:=h2 k y D;refine⟨p,?_,q3 L⟩;rw[G6,Zmp l m q1,q2]
end
end Go.Z9
end
noncomputable section
namespace Go.Proofs.YtbnepjakjmnadaaGreat
open Go.Proofs.Tryz Go.Z9 Go.Lf
variable{F L:Nat}{env:NM}{h:H}{l:U Y}
def wfI(n:Int):Prop:=(Lit.int .i64 n).wf=true
inductive Zxv:Zi->Prop
 | mk {x:Zi} (ho:wfI x.op) (hn:wfI x.n) (ht:x.qJ.size<=maxLen) (hk:∀y∈x.qQ,Zxv y):Zxv x
def ZKw(x:ZU):Prop:=x.qJ.size<=maxLen/\∀s∈x.names,s.size<=maxLen
mutual
inductive Ziu:Term->Prop
 | mk {x:Term} (l:wfI x.op) (h:x.qJ.size<=maxLen) (q:∀y∈x.args,Zxv y) (p:∀y∈x.qK,Zfb y) (m:∀y∈x.qQ,Ziu y):Ziu x
inductive Zfb:Za->Prop
 | mk {x:Za} (l:wfI x.qV) (h:x.qJ.size<=maxLen) (q:∀y∈x.qG,ZKw y) (p:∀y∈x.qK,Zfb y) (m:∀y∈x.qQ,Ziu y):Zfb x
end
def ZR5:K8 XX.P (QL .i64) wfI 34:=.int Kq0 Kq0
def ZR6:K8 XX.P (QL .i64) wfI 28:=.int Kq0 Kq0
def ZMY:K8 XX.P (QL .i64) wfI 127:=.int Kq0 Kq0
def ZXT:K8 XX.P (QL .i64) wfI 3:=.int Kq0 Kq0
def ZCi:K8 XX.P Zq (fun s=>s.size<=maxLen) 9:=.str Kq0 Kq0
def ZR4:K8 XX.P (Yz Zq) (fun l=>∀x∈l,x.size<=maxLen) 22:=.slice Kq0 Kq0 ZCi
def ZMW:K8 XX.P ZG ZKw 136:=⟨by kernel_rfl,fun a=>by
 obtain⟨l,rfl,t,h⟩:=a.ZzX Tryz.underlying136
 match l,t,h with
 | [x0,x1],_,h=>
   obtain⟨I,p,A,r,B⟩:=ZCi.2 (h 0 x0 _ rfl rfl);obtain⟨p1,m,y,q,x⟩:=ZR4.2 (h 1 x1 _ rfl rfl);exact⟨p1,⟨p,m⟩,by simp[Kf,List.flatMap_nil,A,y];rfl,⟨r,q⟩,fun L=>x L⟩⟩
def ZMX:K8 XX.P (Yz ZG) (fun l=>∀x∈l,ZKw x) 128:=.slice Kq0 Kq0 ZMW
def Zvf(h:H)(cs:U N){l:Type}(e:WG l)(m:l->Prop):Prop:=∃p x,cs=e.sh p x/\m x/\∀L,e.F L h p x
structure ZGi(h:H)(t:TypeId)(cs:List Value):Prop where
 fe:t=36->Zvf h cs Zg Zxv
 fel:t=29->Zvf h cs (Yz Zg) (fun l=>∀x∈l,Zxv x)
 ft:t=33->Zvf h cs Zw Ziu
 ftl:t=31->Zvf h cs (Yz Zw) (fun l=>∀x∈l,Ziu x)
 fc:t=130->Zvf h cs Zc Zfb
 fcl:t=30->Zvf h cs (Yz Zc) (fun l=>∀x∈l,Zfb x)
def ZCy{m:Type}{e:WG m}{p:m->Prop}:Zvf h [V3] (Yz e) (fun l=>∀x∈l,p x):=⟨(none,0),[],rfl,by simp,fun _=>Sl.nil⟩
def Zru{m:Type}{e:WG m}{p:m->Prop}:Zvf h [.slice (some ⟨0,0,some 0⟩) 0 0] (Yz e) (fun l=>∀x∈l,p x):=
 ⟨(some ⟨0,0,some 0⟩,0),[],rfl,by simp,fun _=>⟨by simp,by simp,.inr (.inl ⟨rfl,rfl⟩),.inl rfl⟩⟩
def ZMN{E:Type}{t:J}{cs:U N}{d:DataW E}(a:AR XX.P h t cs d):ZGi h t cs:=by
 have no:∀{t:J}{cs:U N},t≠36->t≠29->t≠33->t≠31->t≠130->t≠30->ZGi h t cs:=fun a b c d e f=>⟨fun x=>absurd x a,fun x=>absurd x b,fun x=>absurd x c,fun x=>absurd x d,fun x=>absurd x e,fun x=>absurd x f⟩;have m:=Tryz.underlying36;have B:=Tryz.underlying29;have p:=Tryz.underlying33;have y:=Tryz.underlying31;have ZB2:=Tryz.underlying130;have A:=Tryz.underlying30
 have Zqd:∀{t:J}{u:TypeDesc},XX.P.underlying t=some u->(∀e,u≠.slice e)->(∀f,u≠.struct f)->∀cs,ZGi h t cs:=by
  intro t u hu h1 h2 cs;refine no ?_ ?_ ?_ ?_ ?_ ?_<;>(rintro rfl);·rw[show XX.P.underlying 36=_ from m]at hu;cases hu;exact h2 _ rfl
  ·rw[show XX.P.underlying 29=_ from B]at hu;cases hu;exact h1 _ rfl
  ·rw[show XX.P.underlying 33=_ from p]at hu;cases hu;exact h2 _ rfl
  ·rw[show XX.P.underlying 31=_ from y]at hu;cases hu;exact h1 _ rfl
  ·rw[show XX.P.underlying 130=_ from ZB2]at hu;cases hu;exact h2 _ rfl
  ·rw[show XX.P.underlying 30=_ from A]at hu;cases hu;exact h1 _ rfl
 induction a with
 | bool hu=>exact Zqd hu (fun _=>by simp) (fun _=>by simp) _
 | int hu _=>exact Zqd hu (fun _=>by simp) (fun _=>by simp) _
 | string hu _=>exact Zqd hu (fun _=>by simp) (fun _=>by simp) _
 | nil hu=>
   refine⟨?_,fun _=>ZCy,?_,fun _=>ZCy,?_,fun _=>ZCy⟩;·rintro rfl;rw[show XX.P.underlying 36=_ from m]at hu;cases hu
   ·rintro rfl;rw[show XX.P.underlying 33=_ from p]at hu;cases hu
   ·rintro rfl;rw[show XX.P.underlying 130=_ from ZB2]at hu;cases hu
 | empty hu=>
   refine⟨?_,fun _=>Zru,?_,fun _=>Zru,?_,fun _=>Zru⟩;·rintro rfl;rw[show XX.P.underlying 36=_ from m]at hu;cases hu
   ·rintro rfl;rw[show XX.P.underlying 33=_ from p]at hu;cases hu
   ·rintro rfl;rw[show XX.P.underlying 130=_ from ZB2]at hu;cases hu
 | slice hu C hc D r _ ih=>
   refine⟨?_,?_,?_,?_,?_,?_⟩;·rintro rfl;rw[show XX.P.underlying 36=_ from m]at hu;cases hu
   ·rintro rfl;rw[show XX.P.underlying 29=_ from B]at hu;cases hu;exact ZvH C hc D (fun x q=>(r x q).trans Kq0) fun x q=>(ih x q).fe rfl
   ·rintro rfl;rw[show XX.P.underlying 33=_ from p]at hu;cases hu
   ·rintro rfl;rw[show XX.P.underlying 31=_ from y]at hu;cases hu;exact ZvH C hc D (fun x q=>(r x q).trans Kq0) fun x q=>(ih x q).ft rfl
   ·rintro rfl;rw[show XX.P.underlying 130=_ from ZB2]at hu;cases hu
   ·rintro rfl;rw[show XX.P.underlying 30=_ from A]at hu;cases hu;exact ZvH C hc D (fun x q=>(r x q).trans Kq0) fun x q=>(ih x q).fc rfl
 | @struct t fs F hu C r l ih=>
   refine⟨?_,?_,?_,?_,?_,?_⟩
   ·rintro rfl;rw[show XX.P.underlying 36=_ from m]at hu;cases hu;match F,C,l,ih with
    | [x0,x1,x2,x3],_,l,ih=>
      obtain⟨I,S,e0,X,f0⟩:=ZR5.2 (l 0 x0 _ rfl rfl);obtain⟨p1,Q,e1,W,f1⟩:=ZXT.2 (l 1 x1 _ rfl rfl);obtain⟨p2,K,e2,V,f2⟩:=ZCi.2 (l 2 x2 _ rfl rfl);obtain⟨p3,G,e3,T,f3⟩:=(ih 3 x3 _ rfl rfl).fel rfl;exact⟨p3,⟨S,Q,K,G⟩,by simp[Kf,List.flatMap_nil,e0,e1,e2,e3];rfl,.mk X W V T,fun L=>Yj.2 (f3 L)⟩
   ·rintro rfl;rw[show XX.P.underlying 29=_ from B]at hu;cases hu
   ·rintro rfl;rw[show XX.P.underlying 33=_ from p]at hu;cases hu;match F,C,l,ih with
    | [x0,x1,x2,x3,x4],_,l,ih=>
      obtain⟨I,S,e0,X,f0⟩:=ZR6.2 (l 0 x0 _ rfl rfl);obtain⟨p1,Q,e1,W,f1⟩:=ZCi.2 (l 1 x1 _ rfl rfl);obtain⟨p2,K,e2,V,f2⟩:=(ih 2 x2 _ rfl rfl).fel rfl;obtain⟨p3,G,e3,T,f3⟩:=(ih 3 x3 _ rfl rfl).fcl rfl;obtain⟨p4,y4,e4,v4,f4⟩:=(ih 4 x4 _ rfl rfl).ftl rfl;exact⟨(p2,p3,p4),⟨S,Q,K,G,y4⟩,by simp[Kf,List.flatMap_nil,e0,e1,e2,e3,e4];rfl,.mk X W V T v4,fun L=>XR.2 ⟨f2 L,f3 L,f4 L⟩⟩
   ·rintro rfl;rw[show XX.P.underlying 31=_ from y]at hu;cases hu
   ·rintro rfl;rw[show XX.P.underlying 130=_ from ZB2]at hu;cases hu;match F,C,l,ih with
    | [x0,x1,x2,x3,x4],_,l,ih=>
      obtain⟨I,S,e0,X,f0⟩:=ZMY.2 (l 0 x0 _ rfl rfl);obtain⟨p1,Q,e1,W,f1⟩:=ZCi.2 (l 1 x1 _ rfl rfl);obtain⟨p2,K,e2,V,f2⟩:=ZMX.2 (l 2 x2 _ rfl rfl);obtain⟨p3,G,e3,T,f3⟩:=(ih 3 x3 _ rfl rfl).fcl rfl;obtain⟨p4,y4,e4,v4,f4⟩:=(ih 4 x4 _ rfl rfl).ftl rfl;exact⟨(p2,p3,p4),⟨S,Q,K,G,y4⟩,by simp[Kf,List.flatMap_nil,e0,e1,e2,e3,e4];rfl,.mk X W V T v4,fun L=>ZH.2 ⟨f2 L,f3 L,f4 L⟩⟩
   ·rintro rfl;rw[show XX.P.underlying 30=_ from A]at hu;cases hu
def ZR3:K8 XX.P Zw Ziu 33:=⟨by kernel_rfl,fun a=>(ZMN a).ft rfl⟩
def ZKV:U J:=[33,28,9,29,30,31,36,34,3,130,127,128,136,22]
def Zsg:ZKV.all (ZqS XX.P ZKV)=true:=Kq0
def ZeO:maxLen=BB:=by decide
def ZNg{p:SlP}{x:Zi}(s:Zet L h p x):Zxv x->Lo (.ex x):=by
 induction s with|@mk p x r q _ ih=>
   intro v;have⟨_,_,ht,hv⟩:=v;intro y l;rw[pre_eq]at l;rcases Ks.1 l with rfl|l
   .exact⟨by rw[<-ZeO];exact ht,q.max⟩
   have⟨k,hkk,l⟩:=G0.1 l;obtain⟨z,m,rfl⟩:=Ge.1 hkk;have⟨i,hi⟩:=GB m;exact ih i z hi (hv z m) y l
def ZHE{a:O Addr}{c:Nat}{l:U Zi}(s:Sl Zg L h a c l)(v:∀x∈l,Zxv x):∀x∈l,Lo (.ex x):=fun x m=>by
 have⟨ps,_,hF⟩:=Sl.iff.1 s;have⟨i,hi⟩:=GB m;exact ZNg (hF i x hi) (v x m)
def ZHD{a:O Addr}{c:Nat}{l:U ZU}(s:Sl ZG L h a c l)(v:∀x∈l,ZKw x):∀m∈l,m.qJ.size<=BB/\m.names.length<=BB/\∀s∈m.names,s.size<=BB:=fun m p=>by
 have⟨ps,_,hF⟩:=Sl.iff.1 s;have⟨i,hi⟩:=GB p;have f:Sl Zq L h (ps i).1 (ps i).2 m.names:=hF i m hi;have:=v m p;rw[<-ZeO];exact⟨this.1,f.max,this.2⟩
def ZC6{x:Term}(h1:x.qJ.size<=BB)(h2:x.args.length<=BB)(m:x.qK.length<=BB)(l:x.qQ.length<=BB)(a:∀y∈x.args,Lo (.ex y))(b:∀y∈x.qK,Lo (.cl y))(c:∀y∈x.qQ,Lo (.pr y)):Lo (.pr x):=by
 intro y h;rw[pre_eq]at h;rcases Ks.1 h with rfl|h
 .exact⟨h1,h2,m,l⟩
 have⟨k,hk,h⟩:=G0.1 h;simp only[Ya,J0,Ge]at hk;rcases hk with(⟨z,hz,rfl⟩|⟨z,hz,rfl⟩) | ⟨z,hz,rfl⟩
 .exact a z hz y h
 .exact b z hz y h
 exact c z hz y h
def ZC7{x:Za}(h1:x.qJ.size<=BB)(h2:x.qG.length<=BB)(q:x.qK.length<=BB)(p:x.qQ.length<=BB)(a:∀m∈x.qG,m.qJ.size<=BB/\m.names.length<=BB/\∀s∈m.names,s.size<=BB)(b:∀y∈x.qK,Lo (.cl y))(c:∀y∈x.qQ,Lo (.pr y)):Lo (.cl x):=by
 intro y h;rw[pre_eq]at h;rcases Ks.1 h with rfl|h
 .exact⟨h1,h2,q,p,a⟩
 have⟨k,hk,h⟩:=G0.1 h;simp[Ya,J0,Ge]at hk;rcases hk with⟨z,l,rfl⟩|⟨z,l,rfl⟩
 .exact b z l y h
 exact c z l y h
def Zyg{p:TmP}{x:Term}(s:Ul L h p x):Ziu x->Lo (.pr x):=
 Ul.rec (motive_1:=fun p x _=>Ziu x->Lo (.pr x)) (motive_2:=fun p x _=>Zfb x->Lo (.cl x))
  (fun{p x} B pk m A t _ _ r q v=>by
    have⟨_,ht,va,vd,vk⟩:=v
    exact ZC6 (by rw[<-ZeO];exact ht) m.max A.max t.max (ZHE m va)
     (fun y l=>by have⟨i,hi⟩:=GB l;exact r i y hi (vd y l)) (fun y l=>by have⟨i,hi⟩:=GB l;exact q i y hi (vk y l)))
  (fun{p x} B pk m A t _ _ r q v=>by
    have⟨_,ht,va,vd,vk⟩:=v
    exact ZC7 (by rw[<-ZeO];exact ht) m.max A.max t.max (ZHD m va)
     (fun y l=>by have⟨i,hi⟩:=GB l;exact r i y hi (vd y l)) (fun y l=>by have⟨i,hi⟩:=GB l;exact q i y hi (vk y l))) s
def Zmg(t:Term):Nat:=10^19+(pre (.pr t)).length
def Zn6(t:Term):(Zmi t).length<=(pre (.pr t)).length:=by have a:=ZbX (Jy (.pr t) []) [];have b:=Zh5 (.pr t) [];unfold Zmi;simp[GF]at a;omega
def Zif(q:U (Y×Y))(m:NM):NM:=q.foldl (fun m p=>Xh m p.1 (nam p.2)) m
def ZpE:∀(q:U (Y×Y))(m:NM)(x:Y),ZQ (Zif q m) x=match ZQ (q.map fun p=>(p.1,nam p.2)).reverse x with|some v=>some v|none=>ZQ m x
 | [],m,x=>by simp[Zif,ZQ,Yt]
 | p::q,m,x=>by
   show ZQ (Zif q (Xh m p.1 (nam p.2))) x=_;rw[ZpE q,ZaN,JT,List.reverse_cons,Zb3];cases ZQ (q.map fun p=>(p.1,nam p.2)).reverse x with|some v=>rfl|none=>
     rw[Zb1];by_cases h:x=p.1
     .rw[if_pos h,if_pos h.symm]
     rw[if_neg h,if_neg fun e=>h e.symm];rfl
def ZuT(C:10^19<=F)(l h:U Y)(y:l.length=h.length)(hn:l.length<=100000):loop F (Zbd l h) (0,[])=some (Zif (l.zip h) []):=by
 have r:(l.zip h).length=l.length:=by rw[List.length_zip,<-y,Nat.min_self]
 refine Z8 (body:=Zbd l h) (fun(k:Nat)(m:NM)=>((k:Int),m)) (l.zip h) (fun _ _=>True) (fun rest m=>some (Zif rest m)) (F:=F) ?_ ?_ V6 [] trivial;.intro m x _;rw[r];simp only[Zbd,ZI,Cq0];rfl
 intro k p rest m x B t A _ ih;rw[r]at t;have q:(l.zip h)[k]? =some p:=by rwa[ZdQ]at A
 rw[List.getElem?_zip_eq_some]at q;simp only[Zbd,ZO t,Cq1,ZdQ,q.1,q.2,Bq0,Zub];rw[Qj V6];exact ih _ trivial
def XL(m:MB):U Y:=m.map (·.1)
def ZgK(m:MB):Prop:=∀p∈m,p.2=true
def ZgK.get{m:MB}(h:ZgK m)(x:Y):(ZQ m x).getD false=decide (x∈XL m):=by
 have p:=Zbv (l:=m) (k:=x);cases e:ZQ m x with
 | none=>
   rw[e]at p;rw[decide_eq_false (show ¬ x∈XL m from fun z=>(by have:=p.2 z;cases this))];rfl
 | some v=>
   rw[e]at p;rw[decide_eq_true (show x∈XL m from p.1 rfl)];exact h _ (ZdI e)
def ZgK.Xh{m:MB}(h:ZgK m)(x:Y):ZgK (Xh m x true):=fun p l=>by
 rcases Go.Z9.ZlF l with q|q
 .exact h p q
 exact q
def frm(m:MB):Nat->MB×U Y
 | 0=>(m,[])
 | n+1=>((frm (Xh m (Xj (XL m)) true) n).1,Xj (XL m)::(frm (Xh m (Xj (XL m)) true) n).2)
def ZcD{m:MB}(h:m.length<=800000):XL (Xh m (Xj (XL m)) true)=XL m++[Xj (XL m)]:=by have:=(Zkc (l:=XL m) (by unfold XL;rw[QP];omega)).2;unfold XL at this ⊢;rw[Zo5,if_neg this]
def Zb6{m:MB}(h:m.length<=800000):(Xh m (Xj (XL m)) true).length=m.length+1:=by have:=congrArg List.length (ZcD h);unfold XL at this;rw[K1,QP,QP,GK]at this;exact this
def ZkH:∀(n:Nat)(m:MB),m.length+n<=800000->(frm m n).2.length=n/\(frm m n).1.length=m.length+n
 | 0,m,_=>⟨rfl,rfl⟩
 | n+1,m,h=>by
   have l:=Zb6 (m:=m) V6;have⟨a,b⟩:=ZkH n (Xh m (Xj (XL m)) true) V6;exact⟨by show(frm _ n).2.length+1=_;omega,by show(frm _ n).1.length=_;omega⟩
def ZkI:∀(n:Nat)(m:MB),ZgK m->ZgK (frm m n).1
 | 0,m,h=>h
 | n+1,m,h=>ZkI n _ (h.Xh _)
def ZtM:∀(n:Nat)(m:MB),m.length+n<=800000->XL (frm m n).1=XL m++(frm m n).2
 | 0,m,_=>(G8 _).symm
 | n+1,m,h=>by
   have l:=Zb6 (m:=m) V6;show XL (frm _ n).1=XL m++(Xj (XL m)::(frm _ n).2);rw[ZtM n _ V6,ZcD V6,Q4];rfl
def ZyD:∀(n:Nat)(m:MB),m.length+n<=800000->(frm m n).2.Nodup/\∀x∈(frm m n).2,X7 x=true/\x∉XL m
 | 0,m,_=>⟨List.nodup_nil,fun x p=>by cases p⟩
 | n+1,m,h=>by
   have t:=Zb6 (m:=m) V6;have⟨a,b⟩:=ZyD n (Xh m (Xj (XL m)) true) V6;have q:=ZcD (m:=m) V6;have r:=Zkc (l:=XL m) (by unfold XL;rw[QP];omega)
   constructor
   .show(Xj (XL m)::(frm _ n).2).Nodup;rw[List.nodup_cons];refine⟨fun p=>(b _ p).2 ?_,a⟩;rw[q];simp
   intro x p;rcases Ks.1 (show x∈Xj (XL m)::(frm _ n).2 from p) with rfl|p
   .exact r
   have⟨c,d⟩:=b x p;exact⟨c,fun z=>d (by rw[q];exact GH _ z)⟩
def ZPo(q:10^19<=F){m:MB}(h:ZgK m)(p:m.length<=800000):ZER F m=some (Xh m (Xj (XL m)) true,Xj (XL m)):=by unfold ZER;rw[ZEM (l:=XL m) h.get V6 (by unfold XL;rw[QP];omega)];rfl
def ZyY(B:10^19<=F)(m:MB)(c:U NM)(l:U Y)(p:O MB)(h:ZgK m)(y:m.length+l.length<=800000)(hn:l.length<=100000):Zfy F m c l p=some (frm m l.length):=by
 unfold Zfy
 have:=Z8 (body:=Zm2 F l) (fun(k:Nat)(s:MB×U Y)=>((k:Int),s.1,s.2)) l (fun rest s=>ZgK s.1/\s.1.length+rest.length<=800000/\s.2.length+rest.length<=100000)
  (fun rest s=>some ((frm s.1 rest.length).1,s.2++(frm s.1 rest.length).2)) (F:=F) ?_ ?_ V6 (m,[]) ⟨h,y,by simpa using hn⟩
 .exact this
 .intro s q _;simp only[Zm2,ZI,Cq0,GF,frm,G8]
 intro k x rest s q C A D r ih;have⟨p1,p2,p3⟩:=r;simp only[Kd]at p2 p3;have t:=Zb6 (m:=s.1) V6;simp only[Zm2,ZO A,Cq1,ZPo B p1 (show s.1.length<=800000 by omega),Bq0];rw[ZWp V6 V6,Bq0,Qj V6];have:=ih (Xh s.1 (Xj (XL s.1)) true,s.2++[Xj (XL s.1)]) ⟨p1.Xh _,by simp only;omega,by simp only[K1,GK];omega⟩;refine this.trans ?_;simp only[Kd,frm,Q4,List.singleton_append]
def bdC:BF MB:=fun l _ h _=>frm l h.length
def IC(k:Nat)(h:MB):Prop:=ZgK h/\h.length+k<=800000
def Zzy{R:U NM->NM->Prop}{c:U NM}{B r:U Y}{q:Y->Z}(h:CE R c env B r q){m:U Y}(y:l.length=m.length)(t:R (Zif (l.zip m) []::c) (ext env l m)):CE R (Zif (l.zip m) []::c) (ext env l m) (B++l) (r++l) (J6 q l):=
 ZxB h y (fun x=>by
  rw[ZpE];cases ZQ ((l.zip m).map fun p=>(p.1,nam p.2)).reverse x<;>simp[ZQ,Yt]) t
def ZGw(m:10^19<=F):BE F IC (fun _ _=>True) (ZfD F (Zfy F)) (fun _ _=>none) (fun _=>none) bdC where
 mono:=fun k j l h=>⟨h.1,by have:=h.2;omega⟩
 t:=fun l c env B C y t k q _ _ _ _ _ A x=>by
  have⟨h1,h2⟩:=x;have⟨a,b⟩:=ZkH (JM t.qK).length l V6;refine⟨Zif ((JM t.qK).zip (frm l (JM t.qK).length).2) [],?_,Zzy q a.symm trivial,ZkI _ _ h1,?_⟩
  .unfold ZfD;rw[ZyY m l c (JM t.qK) none h1 V6 V6,Bq0,ZuT m _ _ a.symm V6];rfl
  show(frm l (JM t.qK).length).1.length+k<=_;omega
 r:=fun l c env B C y p k q _ _ _ _ _ A x=>by
  have⟨h1,h2⟩:=x;have⟨a,b⟩:=ZkH (Zz p.qG).length l V6;refine⟨Zif ((Zz p.qG).zip (frm l (Zz p.qG).length).2) [],?_,Zzy q a.symm trivial,ZkI _ _ h1,?_⟩
  .unfold ZfD;rw[ZyY m l c (Zz p.qG) none h1 V6 V6,Bq0,ZuT m _ _ a.symm V6];rfl
  show(frm l (Zz p.qG).length).1.length+k<=_;omega
def ZnM:∀(l:U Evt)(m:MB),ZgK m->ZgK (Qa l m)
 | [],m,h=>h
 | e::l,m,h=>by
   show ZgK (Qa l (note m e.2 e.1));refine ZnM l _ ?_;unfold note;by_cases h1:e.1∈e.2
   .rw[if_pos h1];exact h
   rw[if_neg h1];exact h.Xh _
def tk0(t:Term):MB:=Qa (Jy (.pr t) []) []
def ZB4{t:Term}(hn:(pre (.pr t)).length<=60):ZgK (tk0 t)/\(tk0 t).length<=60:=by have⟨_,_,k3⟩:=Zbs (Jy (.pr t) []) [] List.nodup_nil;have l:=Zh5 (.pr t) [];refine⟨ZnM _ _ fun p h=>(by cases h),?_⟩;unfold tk0;simp[GF]at k3;omega
def Zid(t:Term):Term:=(Wt bdC (tk0 t) [] t).2
def Zni(l:10^19<=F)(t:Term)(m:(pre (.pr t)).all UF=true)(hn:(pre (.pr t)).length<=60):ZwE F t=some (Zid t):=by obtain⟨a,b⟩:=ZB4 hn;unfold ZwE;rw[(Zwp l t m hn).1,Bq0];have h:=(ZB7 l (ZGw l) 60 t m hn V7 F V6 [] (tk0 t) [[]] [] [] [] _ 0 ZGu (by simp[Kd,GF];omega) Vf ⟨a,by omega⟩).1;rw[(Zzm 60).1 t hn _ fun _=>rfl]at h;have p:Zm4 F (ZfD F (Zfy F)) (fun _ _=>none) (fun _=>none) (([],tk0 t),[[]],t)=_:=h;show Option.map _ ((Zm4 F (ZfD F (Zfy F)) (fun _ _=>none) (fun _=>none) (([],tk0 t),[[]],t)).bind okP)=_;rw[p];rfl
def ZJ1(m:10^19<=F)(t:Term)(p:Lo (.pr t))(l:(pre (.pr t)).length<=F):ZE3 F t=some (bif J9 AgW (.pr t) then(Zid t,(0:Int)) else(.mk 0 (⟨#[]⟩:Y) [] [] [],2)):=by
 unfold ZE3;rw[ZrD m t p l,Bq0];cases h:J9 AgW (.pr t) with|false=>rfl|true=>
   have⟨a,b⟩:=Kb h;simp[Cq1];rw[Zni m t a b];rfl
inductive WsP{σ α:Type}(P:σ->α->σ×α->Prop):σ->List α->σ×List α->Prop
 | nil {s:σ}:WsP P s [] (s,[])
 | cons {s:σ} {a:α} {l:List α} {r:σ×α} {q:σ×List α} (h:P s a r) (t:WsP P r.1 l q):WsP P s (a::l) (q.1,r.2::q.2)
def ZMe{m:Type}(p:BF m)(B:m->NM->Term->m×Term->Prop)(F:m->NM->Za->m×Za->Prop)
 (S:∀(s:m)(env en:NM)(t:Term)(s1:m)(G:U Y)(rd:m×U Za)(rk:m×U Term),t.op=4->p s env (JM t.qK) (.pr t)=(s1,G)->en=ext env (JM t.qK) G ->
   WsP (fun s c r=>F s en c r) s1 t.qK rd->WsP (fun s k r=>B s en k r) rd.1 t.qQ rk->B s env t (rk.1,.mk t.op (tx0 env t.qJ) (t.args.map (KZ env)) rd.2 rk.2))
 (he:∀(s:m)(env:NM)(t:Term)(rk:m×U Term),t.op≠4->WsP (fun s k r=>B s env k r) s t.qQ rk->B s env t (rk.1,.mk t.op (tx0 env t.qJ) (t.args.map (KZ env)) [] rk.2))
 (Q:∀(s:m)(env:NM)(c:Za)(rd:m×U Za)(rk:m×U Term),c.qV=2->WsP (fun s d r=>F s env d r) s c.qK rd->WsP (fun s k r=>B s env k r) rd.1 c.qQ rk->F s env c (rk.1,.mk c.qV (tx1 env c.qJ) [] rd.2 rk.2))
 (P:∀(s:m)(env en:NM)(c:Za)(s1:m)(G:U Y)(rk:m×U Term),c.qV≠2->p s env (Zz c.qG) (.cl c)=(s1,G)->en=ext env (Zz c.qG) G ->
   WsP (fun s k r=>B s en k r) s1 c.qQ rk->F s env c (rk.1,.mk c.qV E0 (c.qG.map (Zcx env en)) [] rk.2)):
 (∀t s env,B s env t (Wt p s env t))/\(∀c s env,F s env c (Wc p s env c)):=by
 have C:∀n,(∀t,pz (.pr t)<n->∀s env,B s env t (Wt p s env t))/\(∀c,pz (.cl c)<n->∀s env,F s env c (Wc p s env c)):=by
  intro n;induction n with
  | zero=>exact⟨fun t h=>absurd h (Nat.not_lt_zero _),fun t h=>absurd h (Nat.not_lt_zero _)⟩
  | succ n ih=>
    have A:∀(l:U Term),(∀x∈l,pz (.pr x)<n)->∀s env,WsP (fun s k r=>B s env k r) s l (Wts p s env l):=by
     intro l;induction l with|nil=>intro _ s env;rw[ZbF];exact .nil|cons x l D=>intro h s env;rw[K7];exact .cons (ih.1 x (h x Vd) s env) (D (fun y L=>h y (Kx _ L)) _ env)
    have I:∀(l:U Za),(∀x∈l,pz (.cl x)<n)->∀s env,WsP (fun s k r=>F s env k r) s l (Wcs p s env l):=by
     intro l;induction l with|nil=>intro _ s env;rw[ZaK];exact .nil|cons x l D=>intro h s env;rw[Zcl];exact .cons (ih.2 x (h x Vd) s env) (D (fun y L=>h y (Kx _ L)) _ env)
    constructor
    .intro t hn s env;by_cases K:t.op=4
     .have E:inT p s env t=((p s env (JM t.qK) (.pr t)).1,ext env (JM t.qK) (p s env (JM t.qK) (.pr t)).2):=by unfold inT;rw[K];rfl
      rw[ZnH K,E];exact S s env _ t _ _ _ _ K rfl rfl (I _ (fun x q=>by have:=WW (YP q);omega) _ _) (A _ (fun x q=>by have:=WW (Y0 q);omega) _ _)
     rw[Zis K];exact he s env t _ K (A _ (fun x q=>by have:=WW (Y0 q);omega) _ _)
    intro c hn s env;by_cases h2:c.qV=2;.rw[Zer h2];exact Q s env c _ _ h2 (I _ (fun x q=>by have:=WW (Yw q);omega) _ _) (A _ (fun x q=>by have:=WW (Y5 q);omega) _ _)
    have E:inC p s env c=((p s env (Zz c.qG) (.cl c)).1,ext env (Zz c.qG) (p s env (Zz c.qG) (.cl c)).2):=by
     unfold inC;have:(c.qV==2)=false:=by simpa using h2
     rw[this];rfl
    rw[Zit h2,E];exact P s env _ c _ _ _ h2 rfl rfl (A _ (fun x q=>by have:=WW (Y5 q);omega) _ _)
 exact⟨fun t=>(C _).1 t (Nat.lt_succ_self _),fun c=>(C _).2 c (Nat.lt_succ_self _)⟩
inductive Al{α β:Type}(R:α->β->Prop):List α->List β->Prop
 | nil:Al R [] []
 | cons {a:α} {b:β} {l:List α} {m:List β} (h:R a b) (t:Al R l m):Al R (a::l) (b::m)
def Al.len{p β:Type}{R:p->β->Prop}{l:U p}{m:U β}(h:Al R l m):m.length=l.length:=by induction h with|nil=>rfl|cons _ _ ih=>rw[Kd,Kd,ih]
def Al.right{q β:Type}{R:q->β->Prop}{l:U q}{m:U β}(h:Al R l m):∀y∈m,∃x∈l,R x y:=by
 induction h with|nil=>intro y p;cases p|cons h t ih=>
   intro y p;rcases Ks.1 p with rfl|p
   .exact⟨_,GA,h⟩
   have⟨x,hx,hr⟩:=ih y p;exact⟨x,Kx _ hx,hr⟩
def Al.map{p β q:Type}{R:p->β->Prop}{l:U p}{m:U β}{f:p->q}{g:β->q}(h:Al R l m)(e:∀x y,R x y->g y=f x):m.map g=l.map f:=by induction h with|nil=>rfl|cons h t ih=>rw[JT,JT,ih,e _ _ h]
abbrev ln(p:Part):Nat:=(pre p).length
def ZsW(p:Part):ln p=((Ya p).map ln).sum+1:=by unfold ln;rw[pre_eq,Kd,List.length_flatMap]
def ZsV(t:Term):ln (.pr t)=(t.args.map fun a=>ln (.ex a)).sum+(t.qK.map fun a=>ln (.cl a)).sum+(t.qQ.map fun a=>ln (.pr a)).sum+1:=by rw[ZsW];simp only[Ya,GQ,List.map_map,List.sum_append];rfl
def ZsX(c:Za):ln (.cl c)=(c.qK.map fun a=>ln (.cl a)).sum+(c.qQ.map fun a=>ln (.pr a)).sum+1:=by rw[ZsW];simp[Ya,GQ,List.map_map,List.sum_append];rfl
def X6{f:Part->Z}(p:Part):(pre p).all f=true↔f p=true/\∀k∈Ya p,(pre k).all f=true:=by rw[pre_eq,List.all_cons,Ba0,KB];refine and_congr Iff.rfl ⟨fun h k m=>KB.2 fun x l=>h x (G0.2 ⟨k,m,l⟩),fun h x l=>?_⟩;have⟨k,m,l⟩:=G0.1 l;exact KB.1 (h k m) x l
def Zyd:∀(l:U Y)(h:Y->Z),nWb h l=true↔(∀x∈l,X7 x=true/\h x=false)/\l.Nodup
 | [],h=>by simp[nWb]
 | x::l,h=>by
   rw[nWb,Ba0,Ba0,Zyd l,List.nodup_cons,Bool.not_eq_true']
   constructor
   .rintro⟨⟨a,b⟩,c,d⟩;refine⟨fun y m=>?_,fun r=>?_,d⟩
    .rcases Ks.1 m with rfl|m
     .exact⟨a,b⟩
     have:=c y m;rw[Gj]at this;exact⟨this.1,this.2.1⟩
    have:=(c x r).2;rw[Gj]at this;simp at this
   rintro⟨a,b,c⟩;refine⟨a x Vd,fun y m=>?_,c⟩;have⟨p,q⟩:=a y (Kx _ m);refine⟨p,?_⟩;rw[Gj,decide_eq_false_iff_not];exact⟨q,fun e=>b (e▸m)⟩
def ZDb:∀(js:U ZU)(q hn:Y->Z),jW q hn js=true↔(∀m∈js,X7 m.qJ=true/\q m.qJ=false/\m.names.length<=3/\∀x∈m.names,X7 x=true/\hn x=false)/\(js.map (·.qJ)).Nodup/\(Zz js).Nodup
 | [],q,hn=>by simp[jW,Zz]
 | m::js,q,hn=>by
   have e:Zz (m::js)=m.names++Zz js:=rfl;rw[jW,Ba0,Ba0,Ba0,Ba0,Zyd,ZDb js,Bool.not_eq_true',decide_eq_true_iff,JT,List.nodup_cons,e,List.nodup_append]
   constructor
   .rintro⟨⟨⟨G,F⟩,E⟩,⟨C,B⟩,p,A,t⟩;refine⟨fun y h=>?_,⟨fun D=>?_,A⟩,B,t,fun x l y h r=>?_⟩
    .rcases Ks.1 h with rfl|h
     .exact⟨G,F,E,C⟩
     have⟨d1,d2,d3,d4⟩:=p y h;rw[Gj]at d2;exact⟨d1,d2.1,d3,fun x l=>by have:=d4 x l;rw[Gj]at this;exact⟨this.1,this.2.1⟩⟩
    .have⟨y,h,ey⟩:=Ge.1 D;have:=(p y h).2.1;rw[Gj,decide_eq_false_iff_not]at this;exact this.2 ey
    subst r;have⟨z,hz,hxz⟩:=G0.1 h;have:=((p z hz).2.2.2 x hxz).2;rw[Gj,decide_eq_false_iff_not]at this;exact this.2 l
   rintro⟨a,⟨C,B⟩,p,A,t⟩;have⟨d1,d2,d3,d4⟩:=a m Vd;refine⟨⟨⟨d1,d2⟩,d3⟩,⟨d4,p⟩,fun y h=>?_,B,A⟩;have⟨e1,e2,e3,e4⟩:=a y (Kx _ h);refine⟨e1,?_,e3,fun x l=>?_⟩
   .rw[Gj,decide_eq_false_iff_not];exact⟨e2,fun z=>C (Ge.2 ⟨y,h,z⟩)⟩
   rw[Gj,decide_eq_false_iff_not];exact⟨(e4 x l).1,(e4 x l).2,fun z=>t x z x (G0.2 ⟨y,h,l⟩) rfl⟩
def ZsM:X7 E0=false:=rfl
def ZGN{m:U Y}:∀(h:l.Nodup){i:Nat}{x y:Y},l[i]? =some x->m[i]? =some y->ZQ ((l.zip m).map fun p=>(p.1,nam p.2)).reverse x=some (nam y):=by
 induction l generalizing m with|nil=>intro _ i x y h;cases h|cons a l ih=>
   intro hn i x y t r;rw[List.nodup_cons]at hn;cases m with|nil=>cases r|cons b m=>
     rw[List.zip_cons_cons,JT,List.reverse_cons,Zb3];cases i with
     | zero=>
       simp[List.getElem?_cons_zero,G2]at t r;subst t r
       have:ZQ ((l.zip m).map fun p=>(p.1,nam p.2)).reverse a=none:=by
        cases e:ZQ ((l.zip m).map fun p=>(p.1,nam p.2)).reverse a with|none=>rfl|some v=>
          have:=ZdI e;rw[List.mem_reverse,Ge]at this;have⟨q,hq,e2⟩:=this;have h1:=(List.of_mem_zip hq).1;cases e2;exact absurd h1 hn.1
       rw[this,Zb1,if_pos rfl]
     | succ i=>
       simp[List.getElem?_cons_succ]at t r;rw[ih hn.2 t r]
def ZMM{h:U Y}(hn:l.Nodup){i:Nat}{x y:Y}(p:l[i]? =some x)(m:h[i]? =some y):ZQ (ext env l h) x=some (nam y)/\tx1 (ext env l h) x=y:=by
 have g:ZQ (ext env l h) x=some (nam y):=by
  unfold ext;rw[Zb3,ZGN hn p m]
 refine⟨g,?_⟩;unfold tx1;rw[g];rfl
def ZG4{to:U Y}(hn:l.Nodup)(q:l.length=to.length):l.map (tx1 (ext env l to))=to:=by
 refine GO fun i=>?_;rw[GD];by_cases p:i<l.length;.have m:=G4 p;have h:=G4 (show i<to.length by omega);rw[m,h];exact congrArg some (ZMM hn m h).2
 rw[G7 V6,G7 V6];rfl
def Zrj{e:Zi}(h:e.qQ=[]):ln (.ex e)=1/\dep (.ex e)=1:=by rw[ZsW,Zry];simp[Ya,h,Zf6]
def nt(e:Evt):O Y:=if e.1∈e.2 then none else some e.1
def fv(p:Part)(B:U Y):U Y:=(Jy p B).filterMap nt
def Zm6{e:Zi}(h:KU e=true)(h2:e.op=2):e.qQ=[]:=by unfold KU at h;rw[h2]at h;simp only[Int.reduceBEq,Cq1,Cq0,Ba0,beq_iff_eq]at h;exact Gd h.2
def ZQ8{s:MB}{a d:Nat}(h:IC (a+d) s){s1:MB}{to:U Y}(e:frm s d=(s1,to)):IC a s1/\to.length=d/\to.Nodup/\(∀y∈to,X7 y=true/\y∉XL s)/\∀x∈XL s,x∈XL s1:=by
 have⟨h1,h2⟩:=h;have p:=ZkH d s V6;have q:=ZkI d s h1;have m:=ZyD d s V6;have l:=ZtM d s V6;rw[e]at p q m l
 exact⟨⟨q,by have:=p.2;simp only at this;omega⟩,p.1,m.1,m.2,fun x r=>by
  have l:XL s1=XL s++to:=l;rw[l];exact GH _ r⟩
def vl(env:NM)(z:Y):Zi:=(ZQ env z).getD (nam z)
def Zze{e:Zi}(h:KU e=true)(h2:e.op=2):e=nam e.qJ:=by have l:=Zm6 h h2;unfold KU at h;rw[h2]at h;simp[Int.reduceBEq,Cq1,Cq0,Ba0,beq_iff_eq]at h;have⟨op,n,tx,ks⟩:=e;simp only at h2 l h;unfold nam;rw[h2,l,h.1.2]
def Zul{e:Zi}(h:KU e=true)(h2:e.op=2):KZ env e=vl env e.qJ:=by have hn:=Zze h h2;rw[Zrk,h2];show(ZQ env e.qJ).getD e=(ZQ env e.qJ).getD (nam e.qJ);rw[<-hn]
def Zum{e:Zi}(h2:e.op≠2):KZ env e=.mk e.op e.n e.qJ (e.qQ.map (KZ env)):=by
 have:(e.op==2)=false:=by simpa using h2
 rw[Zrk,this];rfl
def ZP2{P:Zi->Prop}(h:∀e,(pre (.ex e)).all UF=true->(∀k∈e.qQ,P k)->P e):∀e,(pre (.ex e)).all UF=true->P e:=by
 have:∀n e,ln (.ex e)<=n->(pre (.ex e)).all UF=true->P e:=by
  intro n;induction n with|zero=>intro e h;have:=Y7 (.ex e);unfold ln at h;omega|succ n ih=>intro e hn l;exact h e l fun k m=>ih k (by have:=ZY (Xd m);unfold ln at hn ⊢;omega) (((X6 _).1 l).2 _ (Xd m))
 exact fun e=>this _ e V7
def Zmh:∀(n:Nat)(m:MB),(frm m n).2.length=n
 | 0,m=>rfl
 | n+1,m=>by show(frm _ n).2.length+1=_;rw[Zmh n]
structure CR(c:Change)(env:NM):Prop where
 len:c.from_.length=c.JP.length
 eq:env=(c.from_.zip c.JP).reverse
def ZGt:CR ⟨[],[]⟩ []:=⟨rfl,rfl⟩
def ZIN{c:Change}(A:c.from_.length=c.JP.length)(hn:c.from_.length<=800000)(x:Y):∀k,k<=c.from_.length->∀G,k<G->loop G (ZkM c x) ((k:Int)-1)=some (match ZQ ((c.from_.zip c.JP).take k).reverse x with|some v=>(v,true) | none=>(⟨0,0,(⟨#[]⟩:Y),[]⟩,false)):=by
 intro k;induction k with
 | zero=>
   intro _ G r;obtain⟨G,rfl⟩:∃m,G=m+1:=⟨G-1,by omega⟩;rw[ZV];rfl
 | succ k ih=>
   intro B G r;obtain⟨G,rfl⟩:∃m,G=m+1:=⟨G-1,by omega⟩;have p:k<(c.from_.zip c.JP).length:=by rw[List.length_zip];omega
   have y:((k+1:Nat):Int)-1=(k:Int):=V6;have q:Z7 c.from_ (k:Int)=some (c.from_[k]'V6):=QY V6;have l:Z7 c.JP (k:Int)=some (c.JP[k]'V6):=QY V6;rw[ZV,y,List.take_add_one,G4 p,Option.toList_some,List.reverse_append,List.reverse_singleton,List.singleton_append,Zb1,List.getElem_zip];have t:decide ((k:Int) >=0)=true:=decide_eq_true V6;simp[ZkM,t,Cq1,q,Bq0,l];by_cases h:c.from_[k]'V6=x;.rw[decide_eq_true h,if_pos h];rfl
   rw[decide_eq_false h,if_neg h,Cq0,Ky V6 V6];exact ih V6 G V6
def Zmq(p:10^19<=F){c:Change}(h:CR c env)(hn:c.from_.length<=800000)(x:Y):Zki F c x=some (match ZQ env x with|some v=>(v,true) | none=>(⟨0,0,(⟨#[]⟩:Y),[]⟩,false)):=by unfold Zki;have m:=h.len;have l:(c.from_.zip c.JP).take c.from_.length=c.from_.zip c.JP:=List.take_of_length_le (by rw[List.length_zip];omega);rw[Ky V6 V6,ZIN h.len hn x c.from_.length V7 F V6,l,h.eq]
def ZFI(a b:U Y)(h:a.length+b.length<=900000):Zi9 a b=some (a++b):=by unfold Zi9;have m:app 16 ([]:U Y) a=some ([]++a):=XY Vf V6;have l:app 16 a b=some (a++b):=XY V6 V6;rw[m,Bq0,Jx,l];rfl
def ZxZ(I:10^19<=F){c:Change}(h:CR c env){q:U Y}(G:l.length=q.length)(hn:c.from_.length+l.length<=800000):∃c',Zcf F c l q=some c'/\CR c' (ext env l q)/\c'.from_=c.from_++l:=by
 have r:=h.len;refine⟨⟨c.from_++l,c.JP++q.map nam⟩,?_,⟨by simp;omega,?_⟩,rfl⟩
 .unfold Zcf
  have D:app 56 ([]:U Zi) c.JP=some c.JP:=by
   have:=XY (by_:=56) (xs:=([]:U Zi)) (ys:=c.JP) Vf V6;simpa using this
  rw[ZFI _ _ V6,Bq0,D,Bq0];refine Z8 (body:=ZhK q (c.from_++l)) (fun(k:Nat)(m:U Zi)=>((k:Int),m)) q (fun rest m=>m.length+rest.length<=800000) (fun rest m=>some ⟨c.from_++l,m++rest.map nam⟩) (F:=F) ?_ ?_ V6 c.JP V6;.intro m t _;simp only[ZhK,ZI,Cq0,GT,G8]
  intro k x rest m t E A B y ih;simp only[Kd]at y;have C:app 56 m [nam x]=some (m++[nam x]):=XY Vf V6;simp only[ZhK,ZO A,Cq1,B,Bq0,ZyO];rw[show(Zi.mk 2 0 x [])=nam x from rfl,C,Bq0,Qj V6,ih _ Vf,Q4];rfl
 unfold ext;rw[h.eq,List.zip_append r,List.reverse_append];congr 2;rw[List.zip_map_right];exact(List.map_congr_left fun p _=>rfl)
def txR(env:NM)(s:Y):Z:= !decide (s=E0) && !((vl env s).op==2)
def Zk8(m:10^19<=F){c:Change}(h:CR c env)(hn:c.from_.length<=800000)(w:Walk)(s:Y):ZhL F w c s=some (⟨w.mode,w.x,w.free,w.taken,w.bad||txR env s⟩,tx0 env s):=by
 unfold ZhL txR tx0;by_cases l:s=E0;.rw[decide_eq_true (show s=(⟨#[]⟩:Y) from l),if_pos l,Cq1,l];cases w;simp
 rw[decide_eq_false (show ¬ s=(⟨#[]⟩:Y) from l),if_neg l,Cq0];unfold Zuc;rw[Zmq m h hn,Bq0];unfold tx1 vl;cases ZQ env s with|none=>rfl|some v=>rfl
end Go.Proofs.YtbnepjakjmnadaaGreat
end
section
noncomputable section
namespace Go.Proofs.YtbnepjakjmnadaaGreat
open Go.Proofs.Tryz Go.Lf
variable{F:Nat}{c:Change}{env:NM}{h:Type}{p:Part}{s:MB}{t:Term}
def Zuk(D:10^19<=F)(c:Change)(e:Zi)(p:Change×Zi->O Zi)(g:Zi->Zi)(y:e.qQ.length<=1000)(h:∀k∈e.qQ,p (c,k)=some (g k)):Zak F c e p ()=some (.mk e.op e.n e.qJ (e.qQ.map g)):=by
 unfold Zak;have:=Z8 (body:=Zms c e p) (fun(k:Nat)(l:U Zi)=>((k:Int),l)) e.qQ (fun rest l=>l.length+rest.length<=1000) (fun rest l=>some (Zi.mk e.op e.n e.qJ (l++rest.map g))) (F:=F) ?_ ?_ V6 [] (by simpa using y);.exact this
 .intro l m _;simp only[Zms,ZI,Cq0,GT,G8]
 intro k x rest l m r A B t q;simp only[Kd]at t;have C:app 56 l [g x]=some (l++[g x]):=XY Vf V6;simp only[Zms,ZO A,Cq1,B,Bq0,h x r,C];rw[Qj V6,q _ Vf,Q4];rfl
def ZFy(r:10^19<=F):∀n e,ln (.ex e)<=n->n<=60->∀Fr,n<=Fr->loop Fr (Kv F) (⟨[],[]⟩,e)=some e:=by
 intro n
 induction n with|zero=>intro e h;have:=Y7 (.ex e);unfold ln at h;omega|succ n ih=>
   intro e hn y Fr x;obtain⟨G,rfl⟩:∃G,Fr=G+1:=⟨Fr-1,by omega⟩;rw[ZV];have q:∀k∈e.qQ,loop G (Kv F) (⟨[],[]⟩,k)=some (id k):=fun k q=>ih k (by have:=ZY (Xd q);unfold ln at hn ⊢;omega) V6 G V6;have p:e.qQ.length<=1000:=by have:=Uv (.ex e);simp[Ya,QP]at this;unfold ln at hn;omega
   have t:=Zuk r ⟨[],[]⟩ e (loop G (Kv F)) id p q;rw[List.map_id]at t;show(bif(e.op==2) then(Zki F ⟨[],[]⟩ e.qJ).bind fun l=>(bif l.2 then(Zm3 (loop G (Kv F)) l.1).bind fun m=>some m else(Zak F ⟨[],[]⟩ e (loop G (Kv F))) ()) else(Zak F ⟨[],[]⟩ e (loop G (Kv F))) ())=_;rw[Zmq r ZGt (Gq _)];show(bif(e.op==2) then Zak F ⟨[],[]⟩ e (loop G (Kv F)) () else Zak F ⟨[],[]⟩ e (loop G (Kv F)) ())=_;rw[t];cases e.op==2<;>cases e<;>rfl
def ZJH(y:10^19<=F)(h:CR c env)(hn:c.from_.length<=800000)(hv:∀z v,ZQ env z=some v->ln (.ex v)<=60):∀n e,ln (.ex e)<=n->n<=60->(pre (.ex e)).all UF=true->∀Fr,n+60<=Fr->loop Fr (Kv F) (c,e)=some (KZ env e):=by
 intro n
 induction n with|zero=>intro e h;have:=Y7 (.ex e);unfold ln at h;omega|succ n ih=>
   intro e B I A Fr E;obtain⟨G,rfl⟩:∃G,Fr=G+1:=⟨Fr-1,by omega⟩;rw[ZV];have m:KU e=true:=((X6 _).1 A).1;have r:∀k∈e.qQ,loop G (Kv F) (c,k)=some (KZ env k):=fun k r=>ih k (by have:=ZY (Xd r);unfold ln at B ⊢;omega) V6 (((X6 _).1 A).2 _ (Xd r)) G V6;have x:e.qQ.length<=1000:=by have:=Uv (.ex e);simp[Ya,QP]at this;unfold ln at B;omega
   have K:=Zuk y c e (loop G (Kv F)) _ x r;show(bif(e.op==2) then(Zki F c e.qJ).bind fun q=>(bif q.2 then(Zm3 (loop G (Kv F)) q.1).bind fun l=>some l else(Zak F c e (loop G (Kv F))) ()) else(Zak F c e (loop G (Kv F))) ())=_;rw[Zmq y h hn,Bq0,K];by_cases h2:e.op=2
   .rw[Zul m h2,h2];unfold vl;cases C:ZQ env e.qJ with
    | some v=>
      have D:=ZFy y 60 v (hv _ _ C) V7 G V6;show(bif true then(Zm3 (loop G (Kv F)) v).bind fun l=>some l else _)=_;unfold Zm3;rw[D];rfl
    | none=>
      have t:=Zze m h2;have p:=Zm6 m h2;rw[p];show some (Zi.mk 2 e.n e.qJ [])=some (nam e.qJ);rw[<-t];have⟨op,n',tx,ks⟩:=e;simp only at h2 p;rw[h2,p]
   rw[Zum h2,show(e.op==2)=false by simpa using h2];rfl
def anw(q:Y->Z):U Y->U Y->U Y×U Y
 | tk,[]=>(tk,[])
 | tk,n::l=>bif q n then((anw q (tk++[Xj tk]) l).1,Xj tk::(anw q (tk++[Xj tk]) l).2) else((anw q tk l).1,n::(anw q tk l).2)
def qR(w:Walk)(b:Z)(n:Y):Z:=(w.mode==2)||(((w.mode==1)&&b)&&decide (n∈w.free))
def ZKd(T:10^19<=F)(w:Walk)(l:U Y)(b:Z)(h:w.taken.length+l.length<=800000)(S:w.free.length<=800000):Zaw F w l b=some (⟨w.mode,w.x,w.free,(anw (qR w b) w.taken l).1,w.bad⟩,(anw (qR w b) w.taken l).2):=by
 unfold Zaw;refine Z8 (body:=ZhJ F w l b) (fun(k:Nat)(s:U Y×U Y)=>(s.1,(k:Int),s.2)) l (fun rest s=>s.1.length+rest.length<=800000/\s.2.length+rest.length<=800000) (fun rest s=>some (⟨w.mode,w.x,w.free,(anw (qR w b) s.2 rest).1,w.bad⟩,s.1++(anw (qR w b) s.2 rest).2)) (F:=F) ?_ ?_ V6 ([],w.taken) ⟨by simp;omega,h⟩;.intro s q _;simp only[ZhJ,ZI,Cq0,anw,G8]
 rintro k n rest ⟨o,m⟩ q Q I L ⟨D,C⟩ ih;simp only[Kd]at D C;have G:∀y,app 16 o [y]=some (o++[y]):=fun y=>XY Vf V6;have P:∀y,app 16 m [y]=some (m++[y]):=fun y=>XY Vf V6;have K:=has_eq F w.free n V6 V6;have E:=ZAz (F:=F) (l:=m) V6 V6
 have B:(gd ((!(w.mode==2))&&((w.mode==1)&&b)) (ZbM F w.free n) default).bind (fun A=>(bif((w.mode==2)||(((w.mode==1)&&b)&&A)) then(ZAK F m).bind fun r=>(app 16 m [r]).bind fun t=>(Zbz o (k:Int) q) (r,t) else(Zbz o (k:Int) q) (n,m)))=bif qR w b n then Zbz o (k:Int) q (Xj m,m++[Xj m]) else Zbz o (k:Int) q (n,m):=by
  unfold qR;rw[K,E];cases w.mode==2<;>cases (w.mode==1)&&b<;>cases decide (n∈w.free)<;>simp only[gd,G9,Q1,G3,Gp,Gk,Bool.true_or,Cq1,Cq0,Bq0,P]
 simp only[ZhJ,ZO I,Cq1,L,Bq0];rw[B,anw];cases qR w b n;.rw[Cq0,Cq0];show((app 16 o [n]).bind fun p=>q (p,Xa ((k:Int)+1),m))=_;rw[G,Bq0,Qj V6,ih (o++[n],m) ⟨by simp;omega,by simp only;omega⟩];simp only[Q4,List.singleton_append]
 rw[Cq1,Cq1];show((app 16 o [Xj m]).bind fun p=>q (p,Xa ((k:Int)+1),m++[Xj m]))=_;rw[G,Bq0,Qj V6,ih (o++[Xj m],m++[Xj m]) ⟨by simp;omega,by simp;omega⟩];simp only[Q4,List.singleton_append]
def ZqT{l r:U Y}(x:l.length<=900000)(t:r.length<=900000)(h:∀z,z∈l↔z∈r):Xj l=Xj r:=by
 have⟨m,_,h2,h3,e⟩:=KY x;have⟨m',_,h2',h3',e'⟩:=KY t
 have p:∀k,Zbx l k=Zbx r k:=fun k=>by
  unfold Zbx;rw[decide_eq_decide.2 (h (Wn k))]
 have:m=m':=by
  rcases Nat.lt_trichotomy m m' with q|q|q
  .have:=h3' m q;rw[<-p,h2]at this;cases this
  .exact q
  have:=h3 m' q;rw[p,h2']at this;cases this
 rw[e,e',this]
def SmL(h:MB)(s:U Y):Prop:=∀z,z∈XL h↔z∈s
def Zzq:∀(l:U Y)(m:MB)(s:U Y),SmL m s->m.length+l.length<=800000->s.length+l.length<=800000->(anw (fun _=>true) s l).2=(frm m l.length).2/\SmL (frm m l.length).1 (anw (fun _=>true) s l).1/\(anw (fun _=>true) s l).1.length=s.length+l.length
 | [],m,s,h,_,_=>⟨rfl,h,rfl⟩
 | n::l,m,s,h,h1,h2=>by
   simp[Kd]at h1 h2;have q:(XL m).length=m.length:=by unfold XL;rw[QP]
   have e:Xj s=Xj (XL m):=ZqT V6 V6 fun z=>(h z).symm
   have p:SmL (Xh m (Xj (XL m)) true) (s++[Xj s]):=fun z=>by rw[ZcD V6,J0,J0,h z,e]
   have⟨a,b,c⟩:=Zzq l _ _ p (by rw[Zb6 V6];omega) Vf;rw[anw,Cq1];refine⟨?_,b,?_⟩
   .show Xj s::_=Xj (XL m)::(frm _ l.length).2;rw[a,e]
   show(anw _ (s++[Xj s]) l).1.length=_;rw[c];simp;omega
def UZ(m:Int):BF (U Y):=fun h _ l _=>anw (fun _=>m==2) h l
def ZkT(q:Y->Z):∀(l h:U Y),(anw q h l).2.length=l.length/\(anw q h l).1.length<=h.length+l.length
 | [],h=>⟨rfl,K2 _⟩
 | n::l,h=>by
   rw[anw];cases q n
   .have⟨a,b⟩:=ZkT q l h;exact⟨by simp[a],by simp[Cq0,Kd];omega⟩
   have⟨a,b⟩:=ZkT q l (h++[Xj h]);exact⟨by simp[a],by simp[Cq1,Kd,K1,GF]at b ⊢;omega⟩
def OE(env:NM):Prop:=∀z v,ZQ env z=some v->ln (.ex v)<=60
def OE.ext{env:NM}(h:OE env){l m:U Y}(p:l.length=m.length):OE (ext env l m):=fun z v hv=>by
 rcases ext_get p env z with⟨_,y,_,g⟩|⟨_,g⟩
 .rw[g]at hv;cases hv;have:=ZxX y;unfold ln;omega
 rw[g]at hv;exact h z v hv
section
variable(m:Int)(x:Y)(free:U Y)
def XT(next:Walk×Change×Term->O (Walk×Term))(t:Term):Prop:=∀h c env l k,CR c env->OE env->c.from_.length+12000*ln (.pr t)<=780000->h.length+(k+12000*ln (.pr t))<=780000 ->
 (∃p,next (⟨m,x,free,h,l⟩,c,t)=some (⟨m,x,free,(Wt (UZ m) h env t).1,p⟩,(Wt (UZ m) h env t).2))/\(Wt (UZ m) h env t).1.length+k<=780000
def XC(next:Walk×Change×Za->O (Walk×Za))(d:Za):Prop:=∀h c env l k,CR c env->OE env->c.from_.length+12000*ln (.cl d)<=780000->h.length+(k+12000*ln (.cl d))<=780000 ->
 (∃p,next (⟨m,x,free,h,l⟩,c,d)=some (⟨m,x,free,(Wc (UZ m) h env d).1,p⟩,(Wc (UZ m) h env d).2))/\(Wc (UZ m) h env d).1.length+k<=780000
end
variable{m:Int}{x:Y}{free:U Y}
def Zyh(h:m≠1)(w:Walk)(hw:w.mode=m)(c:Change):Zfz F w c=some false:=by unfold Zfz;rw[hw,show(m==1)=false by simpa using h];rfl
def ZF1(t:10^19<=F)(y:m≠1)(r:free.length<=800000)(q l:U Y)(p:Z)(h:q.length+l.length<=800000):Zaw F ⟨m,x,free,q,p⟩ l false=some (⟨m,x,free,(anw (fun _=>m==2) q l).1,p⟩,(anw (fun _=>m==2) q l).2):=by
 have:=ZKd t ⟨m,x,free,q,p⟩ l false h r
 have e:qR ⟨m,x,free,q,p⟩ false=fun _=>m==2:=by
  funext n;unfold qR;simp
 rw[e]at this;exact this
def ZDa(hF:10^19<=F){en:NM}(hc:CR c env)(hn:c.from_.length<=800000)(d:Za)(P:Walk×Change×Term->O (Walk×Term))(L:Walk×Change×Za->O (Walk×Za))(p:Walk×Y)(Q B:U Y)(E:B=(Zz d.qG).map (tx1 en))(hj:d.qG.length<=3)(I:∀q∈d.qG,q.names.length<=3)(X:∀q∈d.qG,q.qJ≠E0)(D:U Y)(K:Z):
 ∃A,loop F (ZeZ F c d P L p Q B) (0,0,m,x,free,D,K,[])=loop F (ZcK F c d P L p Q B (d.qG.map (Zcx env en))) (0,m,x,free,D,A,[]):=by
 have hjl:∀C:U ZU,(∀q∈C,q.names.length<=3)->(Zz C).length<=3*C.length:=by
  intro C
  induction C with|nil=>intro _;simp[Zz]|cons q C ih=>
    intro h;have a:=h q Vd;have b:=ih fun y T=>h y (Kx _ T);unfold Zz at b ⊢;rw[Kf,K1,Kd];omega
 have S:∀(rest l:U ZU)(G:Nat)(b:Z),d.qG=l++rest->rest.length<G->∃A,loop G (ZeZ F c d P L p Q B) (((Zz l).length:Int),(l.length:Int),m,x,free,D,b,l.map (Zcx env en))=loop F (ZcK F c d P L p Q B (d.qG.map (Zcx env en))) (0,m,x,free,D,A,[]):=by
  intro rest;induction rest with
  | nil=>
    intro l G b r hG;obtain⟨G,rfl⟩:∃G',G=G'+1:=⟨G-1,by omega⟩;rw[G8]at r;refine⟨b,?_⟩;rw[ZV,<-r];simp only[ZeZ,ZI,Cq0]
  | cons q rest ih=>
    intro l G b r hG;obtain⟨G,rfl⟩:∃G',G=G'+1:=⟨G-1,by simp only[Kd]at hG;omega⟩;have hq:q∈d.qG:=by rw[r];simp
    have hk:l.length<d.qG.length:=by rw[r];simp
    have hg:Z7 d.qG (l.length:Int)=some q:=by rw[ZdQ,r];simp
    have hqn:=I q hq;have hdl:=hjl l fun y T=>I y (by rw[r];simp[T]);have Z4R:l.length<=3:=V6;have t:Zz d.qG=Zz l++(q.names++Zz rest):=by rw[r];unfold Zz;rw[QQ,Kf]
    have W:slL B ((Zz l).length:Int) (((Zz l).length+q.names.length:Nat):Int)=some (q.names.map (tx1 en)):=by
     rw[Zqc V6 (by rw[E,t,QP,K1,K1];omega),E,t];congr 1;rw[<-List.map_take,<-List.map_drop];congr 1;rw[<-Q4,<-K1,List.take_left,List.drop_left]
    have V:=Zk8 hF hc hn ⟨m,x,free,D,b⟩ q.qJ
    have a1:app 16 ([]:U Y) (q.names.map (tx1 en))=some (q.names.map (tx1 en)):=by
     have:=XY (by_:=16) (xs:=([]:U Y)) (ys:=q.names.map (tx1 en)) Vf V6;simpa using this
    have a2:∀y,app 40 (l.map (Zcx env en)) [y]=some (l.map (Zcx env en)++[y]):=fun y=>XY Vf V6
    have ZYQ:ZU.mk (tx0 env q.qJ) (q.names.map (tx1 en))=Zcx env en q:=by
     unfold Zcx tx0;rw[if_neg (X q hq)]
    have⟨A,hb⟩:=ih (l++[q]) G (b||txR env q.qJ) (by rw[r,Q4];rfl) (by simp only[Kd]at hG;omega);refine⟨A,?_⟩;rw[<-hb,ZV];simp only[ZeZ,ZO hk,Cq1,hg,Bq0,V];rw[Ky V6 V6];have e1:((Zz l).length:Int)+(q.names.length:Int)=(((Zz l).length+q.names.length:Nat):Int):=V6;rw[e1,W,Bq0,a1,Bq0,ZYQ,a2,Bq0];have e2:((q.names.map (tx1 en)).length:Int)=(q.names.length:Int):=by rw[QP]
    rw[e2,Ky V6 V6,Ky V6 V6,e1];have e3:(Zz (l++[q])).length=(Zz l).length+q.names.length:=by unfold Zz;rw[QQ,K1];simp
    have e4:((l++[q]).length:Int)=(l.length:Int)+1:=by simp
    rw[e3,e4,GQ];rfl
 have⟨A,hb⟩:=S d.qG [] F K rfl V6;exact⟨A,hb⟩
def ZAr{d:Za}(h:U9 d=true):(∀q∈d.qG,q.qJ≠E0)/\(Zz d.qG).Nodup:=by
 unfold U9 at h;rw[Ba0]at h;cases h2:d.qV==2<;>rw[h2]at h<;>simp only[Cq1,Cq0,Ba0,beq_iff_eq]at h;.have⟨w1,_,w3⟩:=(ZDb _ _ _).1 h.2.2;exact⟨fun q l e=>(by have:=(w1 q l).1;rw[e,ZsM]at this;cases this),w3⟩
 rw[Gd h.2.1.2];exact⟨fun q l=>(by cases l),List.nodup_nil⟩
def ZQZ{d:Za}(q:U9 d=true)(m:Int)(l:U Y)(env:NM):
 Wc (UZ m) l env d=((Wts (UZ m) (Wcs (UZ m) (anw (fun _=>m==2) l (Zz d.qG)).1 env d.qK).1 (ext env (Zz d.qG) (anw (fun _=>m==2) l (Zz d.qG)).2) d.qQ).1,
  .mk d.qV (tx0 env d.qJ) (d.qG.map (Zcx env (ext env (Zz d.qG) (anw (fun _=>m==2) l (Zz d.qG)).2))) (Wcs (UZ m) (anw (fun _=>m==2) l (Zz d.qG)).1 env d.qK).2
    (Wts (UZ m) (Wcs (UZ m) (anw (fun _=>m==2) l (Zz d.qG)).1 env d.qK).1 (ext env (Zz d.qG) (anw (fun _=>m==2) l (Zz d.qG)).2) d.qQ).2):=by
 by_cases h2:d.qV=2
 .have r:d.qG=[]:=by
   rcases(ZbI q).2 with h|h
   .omega
   exact h.2
  have p:tx0 env d.qJ=tx1 env d.qJ:=by
   unfold U9 at q;rw[h2]at q;simp[Int.reduceBEq,Cq1,Ba0]at q;unfold tx0;rw[if_neg fun e=>by have:=q.2.1.1;rw[e,ZsM]at this;cases this]
  rw[Zer h2,r,p];rfl
 have x:d.qV=1:=by
  rcases(ZbI q).2 with h|h
  .exact h
  exact absurd h.1 h2
 have⟨ht,hd0⟩:=ZeE q x
 have t:inC (UZ m) l env d=((anw (fun _=>m==2) l (Zz d.qG)).1,ext env (Zz d.qG) (anw (fun _=>m==2) l (Zz d.qG)).2):=by
  unfold inC;rw[show(d.qV==2)=false by simpa using h2];rfl
 have p:tx0 env d.qJ=E0:=by unfold tx0;rw[if_pos ht]
 rw[Zit h2,t,hd0,ZaK,p]
def ZQV(hF:10^19<=F)(hm:m≠1)(hfr:free.length<=800000)(D:Walk×Change×Term->O (Walk×Term)):∀n,n<=60->∀d,(pre (.cl d)).all UF=true->ln (.cl d)<=n->(∀t,Part.pr t∈pre (.cl d)->XT m x free D t)->∀Fr,n<=Fr->XC m x free (loop Fr (Zjq F D)) d:=by
 intro n
 induction n with|zero=>intro _ d _ h;have:=Y7 (.cl d);unfold ln at h;omega|succ n ih=>
   intro h60 d hs hl V Fr hFr I c env l k hc hE hcl htk;obtain⟨G,rfl⟩:∃G,Fr=G+1:=⟨Fr-1,by omega⟩
   rw[ZV];have hC:U9 d=true:=((X6 _).1 hs).1;obtain⟨hj,X,kd,p⟩:=Kz hC;obtain⟨hjt,hnd⟩:=ZAr hC;have hjl:=Zf8 hC;have hln:=ZsX d;have hih:∀y∈d.qK,XC m x free (loop G (Zjq F D)) y:=fun y P=>ih V6 y (((X6 _).1 hs).2 _ (Yw P)) (by have:=ZY (Yw P);unfold ln at hl ⊢;omega) (fun t ht=>V t (Yf (Yw P) ht)) G V6
   have hkx:XT m x free D kd:=V kd (Yf (Y5 (by rw[p];simp)) (Yy _));generalize loop G (Zjq F D)=n1 at hih;rw[ZQZ hC];obtain⟨B,al2⟩:=ZkT (fun _=>m==2) (Zz d.qG) I;have K:=ZF1 (x:=x) hF hm hfr I (Zz d.qG) (l||txR env d.qJ) V6;generalize hto:(anw (fun _=>m==2) I (Zz d.qG)).2=to at B K ⊢;generalize Z4D:(anw (fun _=>m==2) I (Zz d.qG)).1=tk1 at al2 K ⊢;have htm:to=(Zz d.qG).map (tx1 (ext env (Zz d.qG) to)):=(ZG4 hnd B.symm).symm;obtain⟨c',hp1,T,hp3⟩:=ZxZ hF hc B.symm V6;obtain⟨b1,W⟩:=ZDa (m:=m) (x:=x) (free:=free) hF hc V6 d D n1 (⟨m,x,free,I,l||txR env d.qJ⟩,tx0 env d.qJ) (Zz d.qG) to htm hj X hjt tk1 (l||txR env d.qJ);have hE2:=hE.ext B.symm;generalize ext env (Zz d.qG) to=en at T W hE2 ⊢
   have hdl:d.qK.length<=60:=by
    have:=Uv (.cl d);simp only[Ya,K1,QP]at this;unfold ln at hl;omega
   have hkn:ln (.pr kd)+(d.qK.map fun a=>ln (.cl a)).sum+1=ln (.cl d):=by rw[hln,p];simp;omega
   have hb:=Za8 (F:=F) (body:=ZcK F c d D n1 (⟨m,x,free,I,l||txR env d.qJ⟩,tx0 env d.qJ) (Zz d.qG) to (d.qG.map (Zcx env en))) (fun(q:Nat)(s:U Y×Z×U Za)=>((q:Int),m,x,free,s.1,s.2.1,s.2.2)) d.qK
    (fun rest s=>s.2.2.length+rest.length<=70/\s.1.length+((k+12000*ln (.pr kd))+12000*(rest.map fun a=>ln (.cl a)).sum)<=780000)
    (fun rest s r=>(∃L,r=some (⟨m,x,free,(Wts (UZ m) (Wcs (UZ m) s.1 env rest).1 en d.qQ).1,L⟩,.mk d.qV (tx0 env d.qJ) (d.qG.map (Zcx env en)) (s.2.2++(Wcs (UZ m) s.1 env rest).2) (Wts (UZ m) (Wcs (UZ m) s.1 env rest).1 en d.qQ).2))/\(Wts (UZ m) (Wcs (UZ m) s.1 env rest).1 en d.qQ).1.length+k<=780000) ?_ ?_ V6 (tk1,b1,[]) ⟨by simp;omega,by simp only;omega⟩
   ·obtain⟨⟨L,e⟩,A⟩:=hb;refine⟨⟨L,?_⟩,A⟩;rw[Jx]at e;refine Eq.trans ?_ (W.trans e);show((ZhL F ⟨m,x,free,I,l⟩ c d.qJ).bind fun E=>(ZmW F d.qG).bind fun QE=>(Zfz F E.1 c).bind fun ZGX=>(bif ZGX then _ else(Zaw F E.1 QE false).bind fun Zfc=>(ZhI F c d D n1 E QE) (Zfc.2,Zfc.1.mode,Zfc.1.x,Zfc.1.free,Zfc.1.taken,Zfc.1.bad)))=_;rw[Zk8 hF hc V6,Bq0,Zo8 hF d.qG hj X,Bq0,Zyh hm _ rfl,Bq0,Cq0,K];rfl
   ·rintro⟨Q,b2,C⟩ nx ⟨q1,S⟩;simp only at q1 S;simp only[GT,List.sum_nil]at S;rw[ZaK,p,K7,ZbF];obtain⟨⟨L,e⟩,A⟩:=hkx Q c' en b2 k T hE2 (by rw[hp3,K1];omega) V6;refine⟨⟨L,?_⟩,A⟩;have g0:Z7 [kd] 0=some kd:=rfl;have a1:∀y,app 96 ([]:U Term) [y]=some [y]:=fun y=>XY (xs:=[]) Vd V6
    simp only[ZcK,ZI,Cq0,hp1,Bq0,p,g0,e,a1,G8]
   rintro q y rest ⟨Q,b2,C⟩ nx P hq hg ⟨q1,S⟩ hr;simp only at q1 S;simp only[JT,List.sum_cons,Kd]at q1 S;have hyl:=ZY (Yw P);obtain⟨⟨L,e⟩,A⟩:=hih y P Q c env b2 (k+12000*ln (.pr kd)+12000*(rest.map fun a=>ln (.cl a)).sum) hc hE (by unfold ln at hcl ⊢;omega) V6;have a1:∀y,app 96 C [y]=some (C++[y]):=fun y=>XY Vf V6
   simp only[ZcK,ZO hq,Cq1,hg,Bq0,e,a1];rw[Qj V6];obtain⟨⟨b3,e3⟩,h3⟩:=hr ((Wc (UZ m) Q env y).1,L,C++[(Wc (UZ m) Q env y).2]) ⟨by simp;omega,by simp only;omega⟩;rw[Zcl];refine⟨⟨b3,?_⟩,h3⟩;simp only at e3;rw[e3,Q4];rfl
def Zzk(hF:10^19<=F)(hm:m≠1)(hfr:free.length<=800000)(hs:(pre (.pr t)).all UF=true)(Q:ln (.pr t)<=60)(E:Walk×Change×Term->O (Walk×Term))(T:∀y,Part.pr y∈pre (.pr t)->ln (.pr y)<ln (.pr t)->XT m x free E y)(A:Walk×Y)(args:U Zi){en:NM}(hc:CR c en)(hE:OE en)(I:U Y)(X:Z)(k:Nat)
 (hcl:c.from_.length+12000*((t.qK.map fun a=>ln (.cl a)).sum+(t.qQ.map fun a=>ln (.pr a)).sum)<=780000) (htk:I.length+(k+12000*((t.qK.map fun a=>ln (.cl a)).sum+(t.qQ.map fun a=>ln (.pr a)).sum))<=780000):
 (∃C,KG F t E A args (m,x,free,I,X,c.from_,c.JP)=some (⟨m,x,free,(Wts (UZ m) (Wcs (UZ m) I en t.qK).1 en t.qQ).1,C⟩,.mk t.op A.2 args (Wcs (UZ m) I en t.qK).2 (Wts (UZ m) (Wcs (UZ m) I en t.qK).1 en t.qQ).2))/\(Wts (UZ m) (Wcs (UZ m) I en t.qK).1 en t.qQ).1.length+k<=780000:=by
 have hkl:=Uv (.pr t);simp only[Ya,K1,QP]at hkl;have hdl:t.qK.length<=60:=by unfold ln at Q;omega
 have hkk:t.qQ.length<=60:=by unfold ln at Q;omega
 have V:∀(l:U Nat)(a:Nat),a∈l->a<=l.sum:=fun l a h=>by
  induction l with|nil=>cases h|cons b l ih=>
    rw[List.sum_cons];rcases Ks.1 h with rfl|h
    ·omega
    have:=ih h;omega
 have hK:∀(K:U Y)(b:Z)(ds:U Za),K.length+(k+12000*(t.qQ.map fun a=>ln (.pr a)).sum)<=780000->(∃C,loop F (Zi8 t E A args c.from_ c.JP ds) (0,m,x,free,K,b,[])=some (⟨m,x,free,(Wts (UZ m) K en t.qQ).1,C⟩,.mk t.op A.2 args ds (Wts (UZ m) K en t.qQ).2))/\(Wts (UZ m) K en t.qQ).1.length+k<=780000:=fun K b ds hb=>by
  have:=Za8 (F:=F) (body:=Zi8 t E A args c.from_ c.JP ds) (fun(q:Nat)(s:U Y×Z×U Term)=>((q:Int),m,x,free,s.1,s.2.1,s.2.2)) t.qQ
   (fun rest s=>s.2.2.length+rest.length<=70/\s.1.length+(k+12000*(rest.map fun a=>ln (.pr a)).sum)<=780000)
   (fun rest s r=>(∃C,r=some (⟨m,x,free,(Wts (UZ m) s.1 en rest).1,C⟩,.mk t.op A.2 args ds (s.2.2++(Wts (UZ m) s.1 en rest).2)))/\(Wts (UZ m) s.1 en rest).1.length+k<=780000) ?_ ?_ V6 (K,b,[]) ⟨by simp;omega,hb⟩
  ·exact this
  ·rintro⟨B,D,p⟩ n' ⟨P,L⟩;simp only[GT,List.sum_nil]at P L;rw[ZbF];refine⟨⟨D,?_⟩,by simp only;omega⟩;simp only[Zi8,ZI,Cq0,G8]
  rintro q y rest ⟨B,D,p⟩ n' G hq hg ⟨P,L⟩ hr;simp only[JT,List.sum_cons,Kd]at P L;have S:=ZY (Y0 G);have hys:=V _ _ (Gi (f:=fun a=>ln (.pr a)) G);obtain⟨⟨C,e⟩,hbd⟩:=T y (Yf (Y0 G) (Yy _)) S B c en D (k+12000*(rest.map fun a=>ln (.pr a)).sum) hc hE V6 V6;have a1:∀y,app 96 p [y]=some (p++[y]):=fun y=>XY Vf V6
  have e':E (⟨m,x,free,B,D⟩,⟨c.from_,c.JP⟩,y)=some (⟨m,x,free,(Wt (UZ m) B en y).1,C⟩,(Wt (UZ m) B en y).2):=e;simp only[Zi8,ZO hq,Cq1,hg,Bq0,e',a1];rw[Qj V6];obtain⟨⟨b3,W⟩,h3⟩:=hr ((Wt (UZ m) B en y).1,C,p++[(Wt (UZ m) B en y).2]) ⟨by simp;omega,by simp only;omega⟩;rw[K7];refine⟨⟨b3,?_⟩,h3⟩;simp only at W;rw[W,Q4];rfl
 have:=Za8 (F:=F) (body:=Zmz F t E A args c.from_ c.JP) (fun(q:Nat)(s:U Y×Z×U Za)=>((q:Int),m,x,free,s.1,s.2.1,s.2.2)) t.qK
  (fun rest s=>s.2.2.length+rest.length<=70/\s.1.length+((k+12000*(t.qQ.map fun a=>ln (.pr a)).sum)+12000*(rest.map fun a=>ln (.cl a)).sum)<=780000)
  (fun rest s r=>(∃C,r=some (⟨m,x,free,(Wts (UZ m) (Wcs (UZ m) s.1 en rest).1 en t.qQ).1,C⟩,.mk t.op A.2 args (s.2.2++(Wcs (UZ m) s.1 en rest).2) (Wts (UZ m) (Wcs (UZ m) s.1 en rest).1 en t.qQ).2))/\(Wts (UZ m) (Wcs (UZ m) s.1 en rest).1 en t.qQ).1.length+k<=780000) ?_ ?_ V6 (I,X,[]) ⟨by simp;omega,by simp only;omega⟩
 ·exact this
 ·rintro⟨B,D,p⟩ n' ⟨P,L⟩;simp only[GT,List.sum_nil]at P L;rw[ZaK];obtain⟨⟨C,e⟩,h⟩:=hK B D p V6;refine⟨⟨C,?_⟩,h⟩;simp only[Zmz,ZI,Cq0,G8];exact e
 rintro q y rest ⟨B,D,p⟩ n' G hq hg ⟨P,L⟩ hr;simp only[JT,List.sum_cons,Kd]at P L;have S:=ZY (YP G);have hys:=V _ _ (Gi (f:=fun a=>ln (.cl a)) G);have hXC:=ZQV (m:=m) (x:=x) (free:=free) hF hm hfr E 60 V7 y (((X6 _).1 hs).2 _ (YP G)) (by unfold ln at Q ⊢;omega) (fun z hz=>T z (Yf (YP G) hz) (by have:=Jm hz;unfold ln;omega)) F V6;obtain⟨⟨C,e⟩,hbd⟩:=hXC B c en D ((k+12000*(t.qQ.map fun a=>ln (.pr a)).sum)+12000*(rest.map fun a=>ln (.cl a)).sum) hc hE V6 V6;have a1:∀y,app 96 p [y]=some (p++[y]):=fun y=>XY Vf V6
 have e':ZFd F E ⟨m,x,free,B,D⟩ ⟨c.from_,c.JP⟩ y=some (⟨m,x,free,(Wc (UZ m) B en y).1,C⟩,(Wc (UZ m) B en y).2):=e;simp only[Zmz,ZO hq,Cq1,hg,Bq0,e',a1];rw[Qj V6];obtain⟨⟨b3,W⟩,h3⟩:=hr ((Wc (UZ m) B en y).1,C,p++[(Wc (UZ m) B en y).2]) ⟨by simp;omega,by simp only;omega⟩;rw[Zcl];refine⟨⟨b3,?_⟩,h3⟩;simp only at W;rw[W,Q4];rfl
def ZQU(K:10^19<=F)(Q:m≠1)(I:free.length<=800000):∀n,n<=60->∀t,(pre (.pr t)).all UF=true->ln (.pr t)<=n->∀Fr,n<=Fr->XT m x free (loop Fr (Zmy F)) t:=by
 intro n
 induction n with|zero=>intro _ t _ h;have:=Y7 (.pr t);unfold ln at h;omega|succ n ih=>
   intro h60 t D W Fr hFr B c env A k S hE hcl htk;obtain⟨G,rfl⟩:∃G,Fr=G+1:=⟨Fr-1,by omega⟩;rw[ZV];have hT:Zff t=true:=((X6 _).1 D).1;have hln:=ZsV t;have E:∀y,Part.pr y∈pre (.pr t)->ln (.pr y)<ln (.pr t)->XT m x free (loop G (Zmy F)) y:=fun y hy hyl=>ih V6 y (by rw[KB]at D ⊢;exact fun z hz=>D z (Jt hz hy)) V6 G V6;generalize loop G (Zmy F)=nx at E
   have hal:t.args.length<=60:=by
    have:=Uv (.pr t);simp only[Ya,K1,QP]at this;unfold ln at W;omega
   have ZY7:∀l,loop F (ZdW F c t nx l) (0,[])=(bif(t.op==4) then(Zq2 F t.qK).bind fun ZfL=>(Zfz F l.1 c).bind fun ZzH=>(bif ZzH then(Zt5 F t).bind fun ZzG=>(ZbM F ZzG l.1.x).bind fun ZzF=>(Zaw F l.1 ZfL ZzF).bind fun C=>(Zcf F c ZfL C.2).bind fun P=>(KG F t nx l (t.args.map (KZ env))) (C.1.mode,C.1.x,C.1.free,C.1.taken,C.1.bad,P.from_,P.JP) else(Zaw F l.1 ZfL false).bind fun r=>(Zcf F c ZfL r.2).bind fun Zdl=>(KG F t nx l (t.args.map (KZ env))) (r.1.mode,r.1.x,r.1.free,r.1.taken,r.1.bad,Zdl.from_,Zdl.JP)) else(KG F t nx l (t.args.map (KZ env))) (l.1.mode,l.1.x,l.1.free,l.1.taken,l.1.bad,c.from_,c.JP)):=fun l=>by
    refine Z8 (body:=ZdW F c t nx l) (fun(k:Nat)(p:U Zi)=>((k:Int),p)) t.args (fun rest p=>p.length+rest.length<=100) (fun rest p=>(bif(t.op==4) then(Zq2 F t.qK).bind fun ZfL=>(Zfz F l.1 c).bind fun ZzH=>(bif ZzH then(Zt5 F t).bind fun ZzG=>(ZbM F ZzG l.1.x).bind fun ZzF=>(Zaw F l.1 ZfL ZzF).bind fun C=>(Zcf F c ZfL C.2).bind fun P=>(KG F t nx l (p++rest.map (KZ env))) (C.1.mode,C.1.x,C.1.free,C.1.taken,C.1.bad,P.from_,P.JP) else(Zaw F l.1 ZfL false).bind fun r=>(Zcf F c ZfL r.2).bind fun Zdl=>(KG F t nx l (p++rest.map (KZ env))) (r.1.mode,r.1.x,r.1.free,r.1.taken,r.1.bad,Zdl.from_,Zdl.JP)) else(KG F t nx l (p++rest.map (KZ env))) (l.1.mode,l.1.x,l.1.free,l.1.taken,l.1.bad,c.from_,c.JP))) (F:=F) ?_ ?_ V6 [] Vf;.intro p T _;simp only[ZdW,ZI,Cq0,GT,G8]
    intro q a rest p T ha hq hg hp V;simp only[Kd]at hp;have e:ZPf F c a=some (KZ env a):=ZJH K S V6 hE 60 a (by have:=ZY (QV ha);unfold ln at W ⊢;omega) V7 (((X6 _).1 D).2 _ (QV ha)) F V6;have a1:app 56 p [KZ env a]=some (p++[KZ env a]):=XY Vf V6;simp only[ZdW,ZO hq,Cq1,hg,Bq0,e,a1];rw[Qj V6,V _ Vf];simp only[Q4,List.singleton_append,JT]
   have hgo:Zmy F (⟨m,x,free,B,A⟩,c,t) nx=loop F (ZdW F c t nx (⟨m,x,free,B,A||txR env t.qJ⟩,tx0 env t.qJ)) (0,[]):=by
    show(ZhL F ⟨m,x,free,B,A⟩ c t.qJ).bind (fun l=>loop F (ZdW F c t nx l) (0,[]))=_;rw[Zk8 K S V6];rfl
   rw[hgo,ZY7];by_cases L:t.op=4
   .have⟨d1,d2,d3⟩:=ZeK (show(pre (.pr t)).length<=60 by unfold ln at W;omega) D (Yy (.pr t));have hdl:=Zec d1 d2 d3;have hlen:(JM t.qK).length<=11040:=by unfold JM;rw[K1];omega
    have⟨al1,al2⟩:=ZkT (fun _=>m==2) (JM t.qK) B
    have X:inT (UZ m) B env t=((anw (fun _=>m==2) B (JM t.qK)).1,ext env (JM t.qK) (anw (fun _=>m==2) B (JM t.qK)).2):=by
     unfold inT;rw[L];rfl
    have⟨c',hp1,hp2,hp3⟩:=ZxZ K S al1.symm V6;have hE2:=hE.ext (env:=env) al1.symm;have⟨⟨b',e⟩,hb⟩:=Zzk (m:=m) (x:=x) (free:=free) K Q I D V6 nx E (⟨m,x,free,B,A||txR env t.qJ⟩,tx0 env t.qJ) (t.args.map (KZ env)) hp2 hE2 (anw (fun _=>m==2) B (JM t.qK)).1 (A||txR env t.qJ) k (by rw[hp3,K1];omega) V6;rw[ZnH L,X];refine⟨⟨b',?_⟩,hb⟩;rw[show(t.op==4)=true by rw[L];rfl,Cq1,ZuP K t.qK d1 d2 d3,Bq0,Zyh Q _ rfl,Bq0,Cq0];show((Zaw F ⟨m,x,free,B,A||txR env t.qJ⟩ (JM t.qK) false).bind fun r=>(Zcf F c (JM t.qK) r.2).bind fun Zdl=>(KG F t nx (⟨m,x,free,B,A||txR env t.qJ⟩,tx0 env t.qJ) (t.args.map (KZ env))) (r.1.mode,r.1.x,r.1.free,r.1.taken,r.1.bad,Zdl.from_,Zdl.JP))=_;rw[ZF1 K Q I B (JM t.qK) _ V6,Bq0];show((Zcf F c (JM t.qK) (anw (fun _=>m==2) B (JM t.qK)).2).bind fun Zdl=>_)=_;rw[hp1,Bq0];exact e
   have⟨⟨b',e⟩,hb⟩:=Zzk (m:=m) (x:=x) (free:=free) K Q I D V6 nx E (⟨m,x,free,B,A||txR env t.qJ⟩,tx0 env t.qJ) (t.args.map (KZ env)) S hE B (A||txR env t.qJ) k V6 V6;have hd0:=ZeA hT L;rw[Zis L];rw[hd0,ZaK]at e hb;refine⟨⟨b',?_⟩,hb⟩;rw[show(t.op==4)=false by simpa using L,Cq0];exact e
def ZQ2(s:MB)(env:NM)(t:Term)(r:MB×Term):Prop:=∀s' k,(pre (.pr t)).all UF=true->ln (.pr t)<=60->IC (k+12000*ln (.pr t)) s->SmL s s'->s'.length+(k+12000*ln (.pr t))<=780000 ->
 (Wt (UZ 2) s' env t).2=r.2/\IC k r.1/\SmL r.1 (Wt (UZ 2) s' env t).1/\(Wt (UZ 2) s' env t).1.length+k<=780000
def ZQ3(s:MB)(env:NM)(t:Za)(r:MB×Za):Prop:=∀s' k,(pre (.cl t)).all UF=true->ln (.cl t)<=60->IC (k+12000*ln (.cl t)) s->SmL s s'->s'.length+(k+12000*ln (.cl t))<=780000 ->
 (Wc (UZ 2) s' env t).2=r.2/\IC k r.1/\SmL r.1 (Wc (UZ 2) s' env t).1/\(Wc (UZ 2) s' env t).1.length+k<=780000
def ZxQ{l:U Term}{q:MB×U Term}(h:WsP (fun s t r=>ZQ2 s env t r) s l q)(x:∀a∈l,(pre (.pr a)).all UF=true/\ln (.pr a)<=60):∀s' k,IC (k+12000*(l.map fun a=>ln (.pr a)).sum) s->SmL s s'->s'.length+(k+12000*(l.map fun a=>ln (.pr a)).sum)<=780000 ->
 (Wts (UZ 2) s' env l).2=q.2/\IC k q.1/\SmL q.1 (Wts (UZ 2) s' env l).1/\(Wts (UZ 2) s' env l).1.length+k<=780000:=by
 induction h with|nil=>intro s' k m y p;rw[ZbF];exact⟨rfl,⟨m.1,KK (Nat.add_le_add_left (Nat.le_add_right _ _) _) m.2⟩,y,by simp[GT,List.sum_nil]at p;simpa using p⟩|@cons s a l r q h t ih=>
   intro s' k m y p;simp[JT,List.sum_cons]at m p;have⟨a1,a2,a3,a4⟩:=h s' (k+12000*(l.map fun a=>ln (.pr a)).sum) (x a Vd).1 (x a Vd).2 ⟨m.1,by have:=m.2;omega⟩ y V6;have⟨b1,b2,b3,b4⟩:=ih (fun b A=>x b (Kx _ A)) _ k a2 a3 a4;rw[K7];exact⟨by simp only;rw[a1,b1],b2,b3,b4⟩
def ZK0{l:U Za}{q:MB×U Za}(h:WsP (fun s t r=>ZQ3 s env t r) s l q)(x:∀a∈l,(pre (.cl a)).all UF=true/\ln (.cl a)<=60):∀s' k,IC (k+12000*(l.map fun a=>ln (.cl a)).sum) s->SmL s s'->s'.length+(k+12000*(l.map fun a=>ln (.cl a)).sum)<=780000 ->
 (Wcs (UZ 2) s' env l).2=q.2/\IC k q.1/\SmL q.1 (Wcs (UZ 2) s' env l).1/\(Wcs (UZ 2) s' env l).1.length+k<=780000:=by
 induction h with|nil=>intro s' k m y p;rw[ZaK];exact⟨rfl,⟨m.1,KK (Nat.add_le_add_left (Nat.le_add_right _ _) _) m.2⟩,y,by simp[GT,List.sum_nil]at p;simpa using p⟩|@cons s a l r q h t ih=>
   intro s' k m y p;simp[JT,List.sum_cons]at m p;have⟨a1,a2,a3,a4⟩:=h s' (k+12000*(l.map fun a=>ln (.cl a)).sum) (x a Vd).1 (x a Vd).2 ⟨m.1,by have:=m.2;omega⟩ y V6;have⟨b1,b2,b3,b4⟩:=ih (fun b A=>x b (Kx _ A)) _ k a2 a3 a4;rw[Zcl];exact⟨by simp only;rw[a1,b1],b2,b3,b4⟩
def ZuS{s1:MB}{s' l p:U Y}(h:frm s l.length=(s1,p))(r:SmL s s')(k:Nat)(q:IC (k+l.length) s)(t:s'.length+(k+l.length)<=780000):
 (anw (fun _=>(2:Int)==2) s' l).2=p/\IC k s1/\SmL s1 (anw (fun _=>(2:Int)==2) s' l).1/\(anw (fun _=>(2:Int)==2) s' l).1.length+k<=780000:=by
 have e:(fun _:Y=>(2:Int)==2)=fun _=>true:=rfl;rw[e];have⟨a,b,c⟩:=Zzq l s s' r (by have:=q.2;omega) V6;have m:IC (k+l.length) s:=q;have⟨i1,_⟩:=ZQ8 m h;rw[h]at a b;exact⟨a,i1,b,by omega⟩
def ZAX:(∀t s env,ZQ2 s env t (Wt bdC s env t))/\(∀c s env,ZQ3 s env c (Wc bdC s env c)):=by
 refine ZMe bdC ZQ2 ZQ3 ?_ ?_ ?_ ?_
 .intro s env en t s1 D rd rk C A y F r s' k m h p B E;have q:=ZsV t;have⟨d1,d2,d3⟩:=ZeK h m (Yy (.pr t));have K:=Zec d1 d2 d3;have G:(JM t.qK).length<=12000:=by unfold JM;rw[K1];omega
  have⟨a1,a2,a3,a4⟩:=ZuS (s':=s') (show frm s (JM t.qK).length=(s1,D) from A) B (k+12000*(t.qQ.map fun a=>ln (.pr a)).sum+12000*(t.qK.map fun a=>ln (.cl a)).sum) ⟨p.1,by have:=p.2;omega⟩ V6
  have x:inT (UZ 2) s' env t=((anw (fun _=>(2:Int)==2) s' (JM t.qK)).1,en):=by
   unfold inT;rw[C,y,<-a1];rfl
  have⟨b1,b2,b3,b4⟩:=ZK0 F (fun a l=>⟨((X6 _).1 m).2 _ (YP l),by have:=ZY (YP l);unfold ln at h ⊢;omega⟩) _ (k+12000*(t.qQ.map fun a=>ln (.pr a)).sum) a2 a3 a4;have⟨c1,c2,c3,c4⟩:=ZxQ r (fun a l=>⟨((X6 _).1 m).2 _ (Y0 l),by have:=ZY (Y0 l);unfold ln at h ⊢;omega⟩) _ k b2 b3 b4;rw[ZnH C,x];exact⟨by simp only;rw[b1,c1],c2,c3,c4⟩
 .intro s env t rk C r s' k m h p B E;have q:=ZsV t;have⟨c1,c2,c3,c4⟩:=ZxQ r (fun a l=>⟨((X6 _).1 m).2 _ (Y0 l),by have:=ZY (Y0 l);unfold ln at h ⊢;omega⟩) s' k ⟨p.1,by have:=p.2;omega⟩ B V6;rw[Zis C];exact⟨by simp only;rw[c1],c2,c3,c4⟩
 .intro s env c rd rk h2 F r s' k m h p B E;have q:=ZsX c;have⟨b1,b2,b3,b4⟩:=ZK0 F (fun a l=>⟨((X6 _).1 m).2 _ (Yw l),by have:=ZY (Yw l);unfold ln at h ⊢;omega⟩) s' (k+12000*(c.qQ.map fun a=>ln (.pr a)).sum) ⟨p.1,by have:=p.2;omega⟩ B V6;have⟨c1,c2,c3,c4⟩:=ZxQ r (fun a l=>⟨((X6 _).1 m).2 _ (Y5 l),by have:=ZY (Y5 l);unfold ln at h ⊢;omega⟩) _ k b2 b3 b4;rw[Zer h2];exact⟨by simp only;rw[b1,c1],c2,c3,c4⟩
 intro s env en c s1 D rk h2 A y r s' k m h p B E;have q:=ZsX c;have I:=Zf8 (show U9 c=true from((X6 _).1 m).1);have⟨a1,a2,a3,a4⟩:=ZuS (s':=s') (show frm s (Zz c.qG).length=(s1,D) from A) B (k+12000*(c.qQ.map fun a=>ln (.pr a)).sum) ⟨p.1,by have:=p.2;omega⟩ V6
 have x:inC (UZ 2) s' env c=((anw (fun _=>(2:Int)==2) s' (Zz c.qG)).1,en):=by
  unfold inC;rw[show(c.qV==2)=false by simpa using h2,y,<-a1];rfl
 have⟨c1,c2,c3,c4⟩:=ZxQ r (fun a l=>⟨((X6 _).1 m).2 _ (Y5 l),by have:=ZY (Y5 l);unfold ln at h ⊢;omega⟩) _ k a2 a3 a4;rw[Zit h2,x];exact⟨by simp only;rw[c1],c2,c3,c4⟩
def Js(a b:h):Z:=@decide (a=b) (Classical.propDecidable _)
def XV{a b:h}:Js a b=true↔a=b:=by unfold Js;exact @decide_eq_true_iff _ (Classical.propDecidable _)
def Zh8(a:h):Js a a=true:=XV.2 rfl
def ZcP{l:Type}{a b:l}(h:a≠b):Js a b=false:=by
 cases e:Js a b;.rfl
 exact absurd (XV.1 e) h
def UG{q:Type}(l r:U q)(hn:l.length=r.length)(x:l.length<=BS){body:Int->(Int->O Z)->O Z}{fin:O Z}
 (y:∀(k:Nat)(h:k<l.length) m,body (k:Int) m=bif Js l[k] (r[k]'V6) then m ((k+1:Nat):Int) else some false)
 (he:∀m,body (l.length:Int) m=fin) (A:10^19<=F):loop F body 0=bif Js l r then fin else some false:=by
 unfold BS at x
 have:=Zhb (body:=body) (r1:=some false) (r2:=fin) (fun k:Nat=>(k:Int)) (fun k=>!Js l[k]? r[k]?) (n:=l.length) (F:=F) V6
  (fun k p m=>by
    rw[y k p m,G4 p,G4 (show k<r.length by omega)]
    have:Js (some l[k]) (some (r[k]'V6))=Js l[k] (r[k]'V6):=by
     rw[Gu,XV,XV];simp
    rw[this];cases Js l[k] (r[k]'V6)<;>rfl) he
 refine(show loop F body 0=loop F body ((0:Nat):Int) from rfl).trans (this.trans ?_);cases h:Js l r with
 | true=>
   obtain rfl:=XV.1 h
   have:(List.range l.length).any (fun k=>!Js l[k]? l[k]?)=false:=by
    rw[List.any_eq_false];intro k _;rw[Zh8];simp
   rw[this];rfl
 | false=>
   have:(List.range l.length).any (fun k=>!Js l[k]? r[k]?)=true:=by
    rw[GR];refine Decidable.byContradiction fun t=>?_
    have:l=r:=GO fun k=>by
     by_cases p:k<l.length
     .refine XV.1 ?_;cases e:Js l[k]? r[k]?;.exact absurd ⟨k,GN.2 p,by rw[e];rfl⟩ t
      rfl
     rw[G7 V6,G7 V6]
    rw[XV.2 this]at h;cases h
   rw[this];rfl
def okS:Part->Prop
 | .pr t=>t.args.length<=BS/\t.qK.length<=BS/\t.qQ.length<=BS
 | .ex e=>e.qQ.length<=BS
 | .cl c=>c.qG.length<=BS/\(∀m∈c.qG,m.names.length<=BS)/\c.qK.length<=BS/\c.qQ.length<=BS
def WK(p:Part):Prop:=∀q∈pre p,okS q
def ZaM(h:WK p):okS p:=h p (Yy p)
def J5{k:Part}(h:WK p)(m:k∈Ya p):WK k:=fun q l=>h q (Yf m l)
def ZbJ{m β:Type}{l:U m}{r:U β}(h:l.length=r.length):((l.length:Int) !=(r.length:Int))=false:=by rw[h];exact Zg8 _
def ZvW(x:10^19<=F)(l r:U Y)(p:l.length<=BS):ZAJ F l r=some (Js l r):=by
 unfold ZAJ;by_cases m:l.length=r.length
 .rw[ZbJ m,Cq0];refine(UG l r m p (fin:=some true) (fun k q t=>?_) (fun t=>?_) x).trans ?_
  .unfold BS at p;simp only[Zq4,ZO q,Cq1,QY q,QY (show k<r.length by omega),Bq0,ZiE (show k<4611686018427387904 by omega)];by_cases e:l[k]=r[k]'V6;.rw[XV.2 e];simp[e]
   rw[ZcP e];simp[e]
  .simp[Zq4]
  cases Js l r<;>rfl
 have:((l.length:Int) !=(r.length:Int))=true:=by simpa using fun h=>m V6
 rw[this,Cq1,ZcP fun h=>m (congrArg _ h)]
def ZFm(B:10^19<=F):∀n a b,WK (.ex a)->(pre (.ex a)).length<=n->∀Fr,n<=Fr->loop Fr (Zt3 F) (a,b)=some (Js a b):=by
 intro n
 induction n with|zero=>intro a b _ A;have:=Y7 (.ex a);omega|succ n ih=>
   intro a b t A Fr C;obtain⟨m,rfl⟩:∃m,Fr=m+1:=⟨Fr-1,by omega⟩;rw[ZV];show(bif((((a.op !=b.op)||(a.n !=b.n))||(!decide (a.qJ=b.qJ)))||((a.qQ.length:Int) !=(b.qQ.length:Int))) then some false else loop F (Zmx a b (loop m (Zt3 F))) 0)=_;by_cases h:a.op=b.op/\a.n=b.n/\a.qJ=b.qJ/\a.qQ.length=b.qQ.length
   .have⟨h1,h2,h3,h4⟩:=h;rw[h1,h2,h3,ZbJ h4,Zg8,Zg8,decide_eq_true rfl];simp only[Bool.or_self,Q1,Cq0];have x:a.qQ.length<=BS:=ZaM t;refine(UG a.qQ b.qQ h4 x (fin:=some true) (fun k r y=>?_) (fun y=>?_) B).trans ?_;.have l:Part.ex a.qQ[k]∈Ya (.ex a):=Ge.2 ⟨_,GG r,rfl⟩;have:=ih a.qQ[k] (b.qQ[k]'V6) (J5 t l) (by have:=ZY l;omega) m V6;unfold BS at x;simp only[Zmx,ZO r,Cq1,QY r,QY (show k<b.qQ.length by omega),Bq0,this,ZiE (show k<4611686018427387904 by omega)];cases Js a.qQ[k] (b.qQ[k]'V6)<;>rfl
    .simp[Zmx]
    have:Js a b=Js a.qQ b.qQ:=by
     rw[Gu,XV,XV];cases a;cases b;simp only[Zi.mk.injEq]at *;exact⟨fun h=>h.2.2.2,fun h=>⟨h1,h2,h3,h⟩⟩
    rw[this];cases Js a.qQ b.qQ<;>rfl
   have q:a≠b:=fun e=>h ⟨by rw[e],by rw[e],by rw[e],by rw[e]⟩
   have:((((a.op !=b.op)||(a.n !=b.n))||(!decide (a.qJ=b.qJ)))||((a.qQ.length:Int) !=(b.qQ.length:Int)))=true:=by
    refine Decidable.byContradiction fun p=>h ?_;simp only[Bool.not_eq_true,Gj,bne_eq_false_iff_eq,Bool.not_eq_false',decide_eq_true_eq]at p;exact⟨p.1.1.1,p.1.1.2,p.1.2,by omega⟩
   rw[this,Cq1,ZcP q]
def Zt6(A:10^19<=F)(p:Term×Term->O Z)(l r:U Term)(x:l.length<=BS)(q:∀k∈l,∀y,p (k,y)=some (Js k y)):Zt7 F p l r=some (Js l r):=by
 unfold Zt7;by_cases m:l.length=r.length
 .rw[ZbJ m,Cq0];refine(UG l r m x (fin:=some true) (fun k t p=>?_) (fun p=>?_) A).trans ?_;.unfold BS at x;simp only[Zq3,ZO t,Cq1,QY t,QY (show k<r.length by omega),Bq0,q _ (GG t),ZiE (show k<4611686018427387904 by omega)];cases Js l[k] (r[k]'V6)<;>rfl
  .simp[Zq3]
  cases Js l r<;>rfl
 have:((l.length:Int) !=(r.length:Int))=true:=by simpa using fun h=>m V6
 rw[this,Cq1,ZcP fun h=>m (congrArg _ h)]
def ZEP(x:10^19<=F)(q:Term×Term->O Z)(B:Nat)(D:∀k:Term,(pre (.pr k)).length<B->WK (.pr k)->∀y,q (k,y)=some (Js k y)):∀n a b,WK (.cl a)->(pre (.cl a)).length<=n->n<=B->∀Fr,n<=Fr->loop Fr (Zmv F q) (a,b)=some (Js a b):=by
 intro n
 induction n with|zero=>intro a b _ I;have:=Y7 (.cl a);omega|succ n ih=>
   intro a b C I Q Fr P;obtain⟨m,rfl⟩:∃m,Fr=m+1:=⟨Fr-1,by omega⟩;rw[ZV];show(bif((((a.qV !=b.qV)||(!decide (a.qJ=b.qJ)))||((a.qG.length:Int) !=(b.qG.length:Int)))||((a.qK.length:Int) !=(b.qK.length:Int))) then some false else loop F (Zmw F a b q (loop m (Zmv F q))) 0)=_;by_cases h:a.qV=b.qV/\a.qJ=b.qJ/\a.qG.length=b.qG.length/\a.qK.length=b.qK.length
   .have⟨h1,h2,h3,h4⟩:=h;rw[h1,h2,ZbJ h3,ZbJ h4,Zg8,decide_eq_true rfl];simp only[Bool.or_self,Q1,Cq0];have⟨o1,o2,o3,o4⟩:=ZaM C;have l:Zt7 F q a.qQ b.qQ=some (Js a.qQ b.qQ):=Zt6 x q _ _ o4 fun k l y=>D k (by have:=ZY (p:=.cl a) (k:=.pr k) (by simp only[Ya,J0,Ge];exact .inr ⟨k,l,rfl⟩);omega) (J5 C (by simp only[Ya,J0,Ge];exact .inr ⟨k,l,rfl⟩)) y
    have L:loop F (Zi7 F a b q (loop m (Zmv F q))) 0=bif Js a.qK b.qK then some (Js a.qQ b.qQ) else some false:=by
     refine UG a.qK b.qK h4 o3 (fun k l t=>?_) (fun t=>?_) x
     .have r:Part.cl a.qK[k]∈Ya (.cl a):=by simp only[Ya,J0,Ge];exact .inl ⟨_,GG l,rfl⟩
      have:=ih a.qK[k] (b.qK[k]'V6) (J5 C r) (by have:=ZY r;omega) V6 m V6;unfold BS at o3;simp only[Zi7,ZO l,Cq1,QY l,QY (show k<b.qK.length by omega),Bq0,this,ZiE (show k<4611686018427387904 by omega)];cases Js a.qK[k] (b.qK[k]'V6)<;>rfl
     simp only[Zi7,ZI,Cq0,l,Bq0]
    refine(UG a.qG b.qG h3 o1 (fin:=loop F (Zi7 F a b q (loop m (Zmv F q))) 0) (fun k l t=>?_) (fun t=>?_) x).trans ?_
    .have K:=ZvW x a.qG[k].names (b.qG[k]'V6).names (o2 _ (GG l));unfold BS at o1;simp only[Zmw,ZO l,Cq1,QY l,QY (show k<b.qG.length by omega),Bq0,ZiE (show k<4611686018427387904 by omega)]
     have e:Js a.qG[k] (b.qG[k]'V6)=(decide (a.qG[k].qJ=(b.qG[k]'V6).qJ)&&Js a.qG[k].names (b.qG[k]'V6).names):=by
      rw[Gu,Ba0,XV,XV,decide_eq_true_iff];generalize a.qG[k]=u;generalize b.qG[k]'V6=v;cases u;cases v;simp only[ZU.mk.injEq]
     rw[e];by_cases G:a.qG[k].qJ=(b.qG[k]'V6).qJ;.rw[decide_eq_true G];simp only[Q1,G9,gd,Cq1,Bq0,K,Gk,G3];cases Js a.qG[k].names (b.qG[k]'V6).names<;>rfl
     rw[decide_eq_false G];simp only[Q1,G9,gd,Cq0,Cq1,Bq0,Bool.true_or,Gp]
    .simp only[Zmw,ZI,Cq0]
    rw[L]
    have:Js a b=(Js a.qG b.qG&&(Js a.qK b.qK&&Js a.qQ b.qQ)):=by
     rw[Gu,Ba0,Ba0,XV,XV,XV,XV];cases a;cases b;simp only[Za.mk.injEq]at *;exact⟨fun h=>h.2.2,fun h=>⟨h1,h2,h⟩⟩
    rw[this];cases Js a.qG b.qG<;>cases Js a.qK b.qK<;>rfl
   have E:a≠b:=fun e=>h ⟨by rw[e],by rw[e],by rw[e],by rw[e]⟩
   have:((((a.qV !=b.qV)||(!decide (a.qJ=b.qJ)))||((a.qG.length:Int) !=(b.qG.length:Int)))||((a.qK.length:Int) !=(b.qK.length:Int)))=true:=by
    refine Decidable.byContradiction fun A=>h ?_;simp only[Bool.not_eq_true,Gj,bne_eq_false_iff_eq,Bool.not_eq_false',decide_eq_true_eq]at A;exact⟨A.1.1.1,A.1.1.2,by omega,by omega⟩
   rw[this,Cq1,ZcP E]
def ZzU(x:10^19<=F):∀n a b,WK (.pr a)->(pre (.pr a)).length<=n->n<=F->∀Fr,n<=Fr->loop Fr (Zkg F) (a,b)=some (Js a b):=by
 intro n
 induction n with|zero=>intro a b _ E;have:=Y7 (.pr a);omega|succ n ih=>
   intro a b A E I Fr L;obtain⟨m,rfl⟩:∃m,Fr=m+1:=⟨Fr-1,by omega⟩;rw[ZV];show(bif(((((a.op !=b.op)||(!decide (a.qJ=b.qJ)))||((a.args.length:Int) !=(b.args.length:Int)))||((a.qK.length:Int) !=(b.qK.length:Int)))||((a.qQ.length:Int) !=(b.qQ.length:Int))) then some false else loop F (ZmR F a b (loop m (Zkg F))) 0)=_;by_cases h:a.op=b.op/\a.qJ=b.qJ/\a.args.length=b.args.length/\a.qK.length=b.qK.length/\a.qQ.length=b.qQ.length
   .have⟨h1,h2,h3,h4,h5⟩:=h;rw[h1,h2,ZbJ h3,ZbJ h4,ZbJ h5,Zg8,decide_eq_true rfl];simp only[Bool.or_self,Q1,Cq0];have⟨o1,o3,o4⟩:=ZaM A;have t:∀k:Term,(pre (.pr k)).length<(pre (.pr a)).length->WK (.pr k)->∀y,loop m (Zkg F) (k,y)=some (Js k y):=fun k q G y=>ih k y G V6 V6 m V6;have q:Zt7 F (loop m (Zkg F)) a.qQ b.qQ=some (Js a.qQ b.qQ):=Zt6 x _ _ _ o4 fun k q y=>t k (ZY (p:=.pr a) (k:=.pr k) (by simp only[Ya,J0,Ge];exact .inr ⟨k,q,rfl⟩)) (J5 A (by simp only[Ya,J0,Ge];exact .inr ⟨k,q,rfl⟩)) y
    have K:loop F (ZmQ F a b (loop m (Zkg F))) 0=bif Js a.qK b.qK then some (Js a.qQ b.qQ) else some false:=by
     refine UG a.qK b.qK h4 o3 (fun k q r=>?_) (fun r=>?_) x
     .have l:Part.cl a.qK[k]∈Ya (.pr a):=by simp only[Ya,J0,Ge];exact .inl (.inr ⟨_,GG q,rfl⟩)
      have D:=ZY l;have:=ZEP x _ (pre (.pr a)).length t (pre (.cl a.qK[k])).length a.qK[k] (b.qK[k]'V6) (J5 A l) V7 V6 F V6;unfold BS at o3;simp only[ZmQ,ZPj,ZO q,Cq1,QY q,QY (show k<b.qK.length by omega),Bq0,this,ZiE (show k<4611686018427387904 by omega)];cases Js a.qK[k] (b.qK[k]'V6)<;>rfl
     simp only[ZmQ,ZI,Cq0,q,Bq0]
    refine(UG a.args b.args h3 o1 (fin:=bif Js a.qK b.qK then some (Js a.qQ b.qQ) else some false) (fun k q r=>?_) (fun r=>?_) x).trans ?_
    .have l:Part.ex a.args[k]∈Ya (.pr a):=by simp only[Ya,J0,Ge];exact .inl (.inl ⟨_,GG q,rfl⟩)
     have D:=ZY l;have:=ZFm x (pre (.ex a.args[k])).length a.args[k] (b.args[k]'V6) (J5 A l) V7 F V6;unfold BS at o1;simp only[ZmR,ZIW,ZO q,Cq1,QY q,QY (show k<b.args.length by omega),Bq0,this,ZiE (show k<4611686018427387904 by omega)];cases Js a.args[k] (b.args[k]'V6)<;>rfl
    .simp only[ZmR,ZI,Cq0,K]
    have:Js a b=(Js a.args b.args&&(Js a.qK b.qK&&Js a.qQ b.qQ)):=by
     rw[Gu,Ba0,Ba0,XV,XV,XV,XV];cases a;cases b;simp only[Term.mk.injEq]at *;exact⟨fun h=>h.2.2,fun h=>⟨h1,h2,h⟩⟩
    rw[this];cases Js a.args b.args<;>cases Js a.qK b.qK<;>rfl
   have C:a≠b:=fun e=>h ⟨by rw[e],by rw[e],by rw[e],by rw[e],by rw[e]⟩
   have:(((((a.op !=b.op)||(!decide (a.qJ=b.qJ)))||((a.args.length:Int) !=(b.args.length:Int)))||((a.qK.length:Int) !=(b.qK.length:Int)))||((a.qQ.length:Int) !=(b.qQ.length:Int)))=true:=by
    refine Decidable.byContradiction fun B=>h ?_;simp only[Bool.not_eq_true,Gj,bne_eq_false_iff_eq,Bool.not_eq_false',decide_eq_true_eq]at B;exact⟨B.1.1.1.1,B.1.1.1.2,by omega,by omega,by omega⟩
   rw[this,Cq1,ZcP C]
def same_eq(m:10^19<=F)(a b:Term)(h:WK (.pr a))(l:(pre (.pr a)).length<=F):Zt8 F a b=some (Js a b):=ZzU m _ a b h V7 l F l
def ZHr(h:UF p=true)(l:(Ya p).length<=BS):okS p:=by
 cases p with|ex e=>simpa[Ya,okS]using l|pr t=>simp[Ya,K1,QP]at l;exact⟨by omega,by omega,by omega⟩|cl c=>
   simp[Ya,K1,QP]at l
   have r:c.qG.length<=3/\∀m∈c.qG,m.names.length<=3:=by
    have⟨a,b,_⟩:=Kz h;exact⟨a,b⟩
   exact⟨by unfold BS;omega,fun m q=>by have:=r.2 m q;unfold BS;omega,by omega,by omega⟩
def ZHt(h:(pre p).all UF=true)(m:(pre p).length<=60):WK p:=fun q l=>
 ZHr (KB.1 h q l) (by have:=Uv q;have:=Jm l;unfold BS;omega)
def Zx1:WK (.pr (.mk 0 (⟨#[]⟩:Y) [] [] [])):=fun q h=>by
 rw[pre_eq]at h;rcases Ks.1 h with rfl|h
 .exact⟨Gq _,Gq _,Gq _⟩
 simp[Ya]at h
def ZHy(h:10^19<=F):ZAI F (.mk 0 (⟨#[]⟩:Y) [] [] [])=some true:=by unfold ZAI;rw[same_eq h _ _ Zx1 (by rw[Qe];simp[Ya];omega),Zh8];rfl
def Zrt[Inhabited h](F:Nat)(m:h×h->O Z)(l r:U h):O Z:=
 bif((l.length:Int) !=(r.length:Int)) then some false else loop F (fun v next=>bif decide (v<(l.length:Int)) then(Z7 l v).bind fun x=>(Z7 r v).bind fun y=>(m (x,y)).bind fun b=>(bif !b then some false else next (Xa (v+1))) else some true) 0
def Zgs{p:Type}[Inhabited p](D:10^19<=F)(B:p×p->O Z)(l r:U p)(C:l.length<=BS)(t:∀x∈l,∀y,B (x,y)=some (Js x y)):Zrt F B l r=some (Js l r):=by
 unfold Zrt;by_cases m:l.length=r.length
 .rw[ZbJ m,Cq0];refine(UG l r m C (fin:=some true) (fun k A q=>?_) (fun q=>?_) D).trans ?_;.unfold BS at C;simp only[ZO A,Cq1,QY A,QY (show k<r.length by omega),Bq0,t _ (GG A),ZiE (show k<4611686018427387904 by omega)];cases Js l[k] (r[k]'V6)<;>rfl
  .simp
  cases Js l r<;>rfl
 have:((l.length:Int) !=(r.length:Int))=true:=by simpa using fun h=>m V6
 rw[this,Cq1,ZcP fun h=>m (congrArg _ h)]
def ZAf(x:10^19<=F)(l r:U Y)(p:l.length<=BS):ZmT F l r=some (Js l r):=by
 unfold ZmT;by_cases m:l.length=r.length
 .rw[ZbJ m,Cq0];refine(UG l r m p (fin:=some true) (fun k q t=>?_) (fun t=>?_) x).trans ?_
  .unfold BS at p;simp only[ZkL,ZO q,Cq1,QY q,QY (show k<r.length by omega),Bq0,ZiE (show k<4611686018427387904 by omega)];by_cases e:l[k]=r[k]'V6;.rw[XV.2 e];simp[e]
   rw[ZcP e];simp[e]
  .simp[ZkL]
  cases Js l r<;>rfl
 have:((l.length:Int) !=(r.length:Int))=true:=by simpa using fun h=>m V6
 rw[this,Cq1,ZcP fun h=>m (congrArg _ h)]
def ZHz(a b:ZU):Js a b=(decide (a.qJ=b.qJ)&&Js a.names b.names):=by rw[Gu,Ba0,XV,XV,decide_eq_true_iff];cases a;cases b;simp[ZU.mk.injEq]
def ZJG(a b:Zi):Js a b=((((a.op==b.op)&&(a.n==b.n))&&decide (a.qJ=b.qJ))&&Js a.qQ b.qQ):=by rw[Gu,Ba0,Ba0,Ba0,XV,XV,decide_eq_true_iff,beq_iff_eq,beq_iff_eq];cases a;cases b;simp[Zi.mk.injEq,and_assoc]
def ZQg(a b:Za):Js a b=((((a.qV==b.qV)&&decide (a.qJ=b.qJ))&&Js a.qG b.qG)&&(Js a.qK b.qK&&Js a.qQ b.qQ)):=by rw[Gu];simp[Ba0,XV,decide_eq_true_iff,beq_iff_eq];cases a;cases b;simp[Za.mk.injEq,and_assoc]
def ZM6(a b:Term):Js a b=(((a.op==b.op)&&decide (a.qJ=b.qJ))&&(Js a.args b.args&&(Js a.qK b.qK&&Js a.qQ b.qQ))):=by rw[Gu];simp[Ba0,XV,decide_eq_true_iff,beq_iff_eq];cases a;cases b;simp[Term.mk.injEq,and_assoc]
def ZCT(q:10^19<=F)(l r:U ZU)(B:l.length<=BS)(hn:∀m∈l,m.names.length<=BS):ZmV F l r=some (Js l r):=by
 refine(show ZmV F l r=Zrt F (fun p=>ZmU F p.1 p.2) l r from rfl).trans (Zgs q _ l r B fun x A y=>?_);show ZmU F x y=_;unfold ZmU;rw[ZHz];cases h:decide (x.qJ=y.qJ) with|false=>rfl|true=>
   show((ZmT F x.names y.names).bind fun t=>some (true&&t))=_;rw[ZAf q _ _ (hn x A)];rfl
def ZJF(t:10^19<=F):∀n a,WK (.ex a)->ln (.ex a)<=n->∀Fr,n<=Fr->∀b,loop Fr (Zd4 F) (a,b)=some (Js a b):=by
 intro n
 induction n with|zero=>intro a _ h;have:=Y7 (.ex a);unfold ln at h;omega|succ n ih=>
   intro a p h Fr A b;obtain⟨m,rfl⟩:∃m,Fr=m+1:=⟨Fr-1,by omega⟩;rw[ZV];have r:=Zgs t (loop m (Zd4 F)) a.qQ b.qQ (ZaM p) fun x l y=>ih x (J5 p (Xd l)) (by have:=ZY (Xd l);unfold ln at h ⊢;omega) m V6 y;show(bif(((a.op==b.op)&&(a.n==b.n))&&(decide (a.qJ=b.qJ))) then(Zrt F (loop m (Zd4 F)) a.qQ b.qQ).bind fun q=>some q else some false)=_;rw[r,ZJG];cases (((a.op==b.op)&&(a.n==b.n))&&(decide (a.qJ=b.qJ)))<;>rfl
def ZQf(A:10^19<=F)(h:Term×Term->O Z)(B:Nat)(t:∀k:Term,ln (.pr k)<B->WK (.pr k)->∀y,h (k,y)=some (Js k y)):∀n a,WK (.cl a)->ln (.cl a)<=n->n<=B->∀Fr,n<=Fr->∀b,loop Fr (Zd3 F h) (a,b)=some (Js a b):=by
 intro n
 induction n with|zero=>intro a _ p;have:=Y7 (.cl a);unfold ln at p;omega|succ n ih=>
   intro a r p L Fr K b;obtain⟨m,rfl⟩:∃m,Fr=m+1:=⟨Fr-1,by omega⟩;rw[ZV];have⟨o1,o2,o3,o4⟩:=ZaM r;have G:=ZCT A a.qG b.qG o1 o2;have I:=Zgs A (loop m (Zd3 F h)) a.qK b.qK o3 fun x l y=>ih x (J5 r (Yw l)) (by have:=ZY (Yw l);unfold ln at p ⊢;omega) V6 m V6 y;have E:=Zgs A h a.qQ b.qQ o4 fun x l y=>t x (by have:=ZY (Y5 l);unfold ln at p ⊢;omega) (J5 r (Y5 l)) y;show((gd ((a.qV==b.qV)&&(decide (a.qJ=b.qJ))) (ZmV F a.qG b.qG) default).bind fun D=>(bif(((a.qV==b.qV)&&(decide (a.qJ=b.qJ)))&&D) then(Zrt F (loop m (Zd3 F h)) a.qK b.qK).bind fun C=>(bif C then(Zrt F h a.qQ b.qQ).bind fun q=>some q else some false) else some false))=_;rw[G,I,E,ZQg];cases ((a.qV==b.qV)&&(decide (a.qJ=b.qJ))) with|false=>rfl|true=>cases Js a.qG b.qG<;>cases Js a.qK b.qK<;>rfl
def ZM5(p:10^19<=F):∀n a,WK (.pr a)->ln (.pr a)<=n->n<=F->∀Fr,n<=Fr->∀b,loop Fr (Zhu F) (a,b)=some (Js a b):=by
 intro n
 induction n with|zero=>intro a _ r;have:=Y7 (.pr a);unfold ln at r;omega|succ n ih=>
   intro a q r E Fr K b;obtain⟨m,rfl⟩:∃m,Fr=m+1:=⟨Fr-1,by omega⟩;rw[ZV];have⟨o1,o3,o4⟩:=ZaM q;have l:∀k:Term,ln (.pr k)<ln (.pr a)->WK (.pr k)->∀y,loop m (Zhu F) (k,y)=some (Js k y):=fun k B D y=>ih k D V6 V6 m V6 y;have I:=Zgs p (loop F (Zd4 F)) a.args b.args o1 fun x h y=>ZJF p (ln (.ex x)) x (J5 q (QV h)) V7 F (by have:=ZY (QV h);unfold ln at r ⊢;omega) y;have G:=Zgs p (loop F (Zd3 F (loop m (Zhu F)))) a.qK b.qK o3 fun x h y=>ZQf p _ (ln (.pr a)) l (ln (.cl x)) x (J5 q (YP h)) V7 (by have:=ZY (YP h);unfold ln;omega) F (by have:=ZY (YP h);unfold ln at r ⊢;omega) y;have B:=Zgs p (loop m (Zhu F)) a.qQ b.qQ o4 fun x h y=>l x (by have:=ZY (Y0 h);unfold ln;omega) (J5 q (Y0 h)) y;show(bif((a.op==b.op)&&(decide (a.qJ=b.qJ))) then(Zrt F (loop F (Zd4 F)) a.args b.args).bind fun C=>(bif C then(Zrt F (loop F (Zd3 F (loop m (Zhu F)))) a.qK b.qK).bind fun A=>(bif A then(Zrt F (loop m (Zhu F)) a.qQ b.qQ).bind fun t=>some t else some false) else some false) else some false)=_;rw[I,G,B,ZM6];cases ((a.op==b.op)&&(decide (a.qJ=b.qJ)))<;>cases Js a.args b.args<;>cases Js a.qK b.qK<;>rfl
def ZMT(m:10^19<=F)(a b:Term)(h:WK (.pr a))(l:ln (.pr a)<=F):ZIR F a b=some (Js a b):=ZM5 m _ a h V7 l F l b
def ZAc(h:J9 AgW (.pr t)=true):WK (.pr t):=ZHt (Kb h).1 (Kb h).2
def QU(p:Part):WK p↔okS p/\∀k∈Ya p,WK k:=by
 refine⟨fun h=>⟨h p (Yy p),fun k m q l=>h q (Yf m l)⟩,fun⟨h1,h2⟩ q l=>?_⟩;rw[pre_eq]at l;rcases Ks.1 l with rfl|l
 .exact h1
 have⟨k,m,l⟩:=G0.1 l;exact h2 k m q l
def Sn(p q:Part):Prop:=WK q/\ln q=ln p
def NmV(env:NM):Prop:=∀z e,ZQ env z=some e->∃y,e=nam y
def NmV.ext{env:NM}(h:NmV env){l m:U Y}(p:l.length=m.length):NmV (ext env l m):=fun z e he=>by
 rcases ext_get p env z with⟨_,y,_,g⟩|⟨_,g⟩
 .rw[g]at he;cases he;exact⟨y,rfl⟩
 rw[g]at he;exact h z e he
def ZGk(y:Y):WK (.ex (nam y)):=(QU _).2 ⟨Gq _,fun k h=>by cases h⟩
def ZQ1(h:NmV env):∀e,(pre (.ex e)).all UF=true->WK (.ex e)->Sn (.ex e) (.ex (KZ env e)):=ZP2 fun e A ih r=>by
 have m:KU e=true:=((X6 _).1 A).1;by_cases h2:e.op=2
 .rw[Zul m h2];have hn:=(Zrj (Zm6 m h2)).1;unfold vl;cases B:ZQ env e.qJ with|none=>exact⟨ZGk _,by rw[hn];exact(Zrj rfl).1⟩|some v=>
    obtain⟨y,rfl⟩:=h _ _ B;exact⟨ZGk _,by rw[hn];exact(Zrj rfl).1⟩
 rw[Zum h2];have q:∀k∈e.qQ,Sn (.ex k) (.ex (KZ env k)):=fun k q=>ih k q (((QU _).1 r).2 _ (Xd q))
 refine⟨(QU _).2 ⟨?_,fun k p=>?_⟩,?_⟩
 .have:=((QU _).1 r).1;show(e.qQ.map _).length<=_;rw[QP];exact this
 .simp only[Ya,List.map_map,Ge]at p;obtain⟨a,C,rfl⟩:=p;exact(q a C).1
 rw[ZsW,ZsW (.ex e)];simp only[Ya,List.map_map];exact congrArg (fun l=>List.sum l+1) (List.map_congr_left fun x t=>(q x t).2)
def ST'(s:MB)(env:NM)(t:Term)(r:MB×Term):Prop:=(pre (.pr t)).all UF=true->WK (.pr t)->NmV env->Sn (.pr t) (.pr r.2)
def SC'(s:MB)(env:NM)(c:Za)(r:MB×Za):Prop:=(pre (.cl c)).all UF=true->WK (.cl c)->NmV env->Sn (.cl c) (.cl r.2)
def ZG9{l:U Term}{q:MB×U Term}(h:WsP (fun s k r=>ST' s env k r) s l q)(m:∀a∈l,(pre (.pr a)).all UF=true/\WK (.pr a))(x:NmV env):Al (fun a b=>Sn (.pr a) (.pr b)) l q.2:=by induction h with|nil=>exact .nil|cons h t ih=>exact .cons (h (m _ Vd).1 (m _ Vd).2 x) (ih fun a p=>m a (Kx _ p))
def ZRZ{l:U Za}{q:MB×U Za}(h:WsP (fun s k r=>SC' s env k r) s l q)(m:∀a∈l,(pre (.cl a)).all UF=true/\WK (.cl a))(x:NmV env):Al (fun a b=>Sn (.cl a) (.cl b)) l q.2:=by induction h with|nil=>exact .nil|cons h t ih=>exact .cons (h (m _ Vd).1 (m _ Vd).2 x) (ih fun a p=>m a (Kx _ p))
def ZKX{A:Y}{ds:U Za}{ks:U Term}(B:(pre (.pr t)).all UF=true)(q:WK (.pr t))(C:NmV env)(p:Al (fun a b=>Sn (.cl a) (.cl b)) t.qK ds)(m:Al (fun a b=>Sn (.pr a) (.pr b)) t.qQ ks):Sn (.pr t) (.pr (.mk t.op A (t.args.map (KZ env)) ds ks)):=by
 have l:∀a∈t.args,Sn (.ex a) (.ex (KZ env a)):=fun a l=>ZQ1 C a (((X6 _).1 B).2 _ (QV l)) (((QU _).1 q).2 _ (QV l));have⟨o1,o2,o3⟩:=((QU _).1 q).1;refine⟨(QU _).2 ⟨⟨by show(t.args.map _).length<=_;rw[QP];exact o1,by show ds.length<=_;rw[p.len];exact o2,by show ks.length<=_;rw[m.len];exact o3⟩,fun k h=>?_⟩,?_⟩
 .simp only[Ya,J0,Ge]at h;rcases h with(⟨_,⟨a,ha',rfl⟩,rfl⟩|⟨d,hd,rfl⟩) | ⟨d,hd,rfl⟩
  .exact(l a ha').1
  .have⟨_,_,r⟩:=p.right d hd;exact r.1
  have⟨_,_,r⟩:=m.right d hd;exact r.1
 rw[ZsV,ZsV t];show((t.args.map (KZ env)).map fun a=>ln (.ex a)).sum+(ds.map fun a=>ln (.cl a)).sum+(ks.map fun a=>ln (.pr a)).sum+1=_;rw[List.map_map,p.map (f:=fun a=>ln (.cl a)) fun x y r=>r.2,m.map (f:=fun a=>ln (.pr a)) fun x y r=>r.2];have:t.args.map ((fun a=>ln (.ex a))∘KZ env)=t.args.map fun a=>ln (.ex a):=List.map_congr_left fun a h=>(l a h).2;rw[this]
def ZKY{c:Za}{D:Int}{B:Y}{l:U ZU}{ds:U Za}{ks:U Term}(A:l.length<=BS/\∀m∈l,m.names.length<=BS)(C:WK (.cl c))(t:Al (fun a b=>Sn (.cl a) (.cl b)) c.qK ds)(q:Al (fun a b=>Sn (.pr a) (.pr b)) c.qQ ks):Sn (.cl c) (.cl (.mk D B l ds ks)):=by
 have⟨o1,o2,o3,o4⟩:=((QU _).1 C).1;refine⟨(QU _).2 ⟨⟨A.1,A.2,by show ds.length<=_;rw[t.len];exact o3,by show ks.length<=_;rw[q.len];exact o4⟩,fun k h=>?_⟩,?_⟩
 .simp only[Ya,J0,Ge]at h;rcases h with⟨d,p,rfl⟩|⟨d,p,rfl⟩
  .have⟨_,_,r⟩:=t.right d p;exact r.1
  have⟨_,_,r⟩:=q.right d p;exact r.1
 rw[ZsX,ZsX c];show(ds.map fun a=>ln (.cl a)).sum+(ks.map fun a=>ln (.pr a)).sum+1=_;rw[t.map (f:=fun a=>ln (.cl a)) fun x y r=>r.2,q.map (f:=fun a=>ln (.pr a)) fun x y r=>r.2]
def ZFD:(∀t s env,ST' s env t (Wt bdC s env t))/\(∀c s env,SC' s env c (Wc bdC s env c)):=by
 refine ZMe bdC ST' SC' ?_ ?_ ?_ ?_
 .intro s env en t s1 C rd rk P B A G y q p r;have I:frm s (JM t.qK).length=(s1,C):=B;have F:(JM t.qK).length=C.length:=by have:=Zmh (JM t.qK).length s;rw[I]at this;exact this.symm
  have x:NmV en:=by rw[A];exact r.ext F
  exact ZKX q p r (ZRZ G (fun a l=>⟨((X6 _).1 q).2 _ (YP l),((QU _).1 p).2 _ (YP l)⟩) x) (ZG9 y (fun a l=>⟨((X6 _).1 q).2 _ (Y0 l),((QU _).1 p).2 _ (Y0 l)⟩) x)
 .intro s env t rk P y q p r;refine ZKX q p r ?_ (ZG9 y (fun a l=>⟨((X6 _).1 q).2 _ (Y0 l),((QU _).1 p).2 _ (Y0 l)⟩) r);rw[ZeA ((X6 _).1 q).1 P];exact .nil
 .intro s env c rd rk h2 G y q p r;exact ZKY ⟨Gq _,fun m E=>by cases E⟩ p (ZRZ G (fun a l=>⟨((X6 _).1 q).2 _ (Yw l),((QU _).1 p).2 _ (Yw l)⟩) r) (ZG9 y (fun a l=>⟨((X6 _).1 q).2 _ (Y5 l),((QU _).1 p).2 _ (Y5 l)⟩) r)
 intro s env en c s1 C rk h2 B A y q p r;have I:frm s (Zz c.qG).length=(s1,C):=B;have F:(Zz c.qG).length=C.length:=by have:=Zmh (Zz c.qG).length s;rw[I]at this;exact this.symm
 have x:NmV en:=by rw[A];exact r.ext F
 have L:U9 c=true:=((X6 _).1 q).1
 have Q:c.qV=1:=by
  rcases(ZbI L).2 with h|h
  .exact h
  exact absurd h.1 h2
 have⟨o1,o2,_,_⟩:=((QU _).1 p).1;refine ZKY ⟨by rw[QP];exact o1,fun m E=>?_⟩ p ?_ (ZG9 y (fun a l=>⟨((X6 _).1 q).2 _ (Y5 l),((QU _).1 p).2 _ (Y5 l)⟩) x);.obtain⟨K,D,rfl⟩:=Ge.1 E;show(K.names.map _).length<=_;rw[QP];exact o2 K D
 rw[(ZeE L Q).2];exact .nil
def ZrF(h:J9 AgW (.pr t)=true):WK (.pr (Zid t))/\ln (.pr (Zid t))=ln (.pr t):=
 ZFD.1 t (tk0 t) [] (Kb h).1 (ZAc h) fun z e he=>by cases he
def ZKg(l:10^19<=F)(a b:Term)(q:Lo (.pr a))(r:Lo (.pr b))(p:ln (.pr a)<=F)(m:ln (.pr b)<=F):ZAH F a b=some (bif J9 AgW (.pr a)&&J9 AgW (.pr b) then(Js (Zid a) (Zid b),(0:Int)) else(false,2)):=by
 unfold ZAH;rw[ZrD l a q p,ZrD l b r m,Bq0];cases h:J9 AgW (.pr a) with|false=>rfl|true=>
   cases h2:J9 AgW (.pr b) with|false=>rfl|true=>
     have⟨a1,a2⟩:=Kb h;have⟨b1,b2⟩:=Kb h2;have⟨c1,c2⟩:=ZrF h;simp[Cq1,Bool.and_self];rw[Zni l a a1 a2,Zni l b b1 b2,Bq0,Bq0,ZMT l _ _ c1 V6];rfl
variable{e:Zi}{K0:U Y}{mine:MB}
def Zye{z:Y}:z∈XL (Qa (Jy (.pr t) []) [])↔z∈fv (.pr t) []:=by
 have⟨_,k2,_⟩:=Zbs (Jy (.pr t) []) [] List.nodup_nil;unfold XL;rw[k2];unfold fv nt;rw[List.mem_filterMap];simp only[GT,Q2,false_or];constructor;.rintro⟨a,h,rfl,hn⟩;exact⟨a,h,by rw[if_neg hn]⟩
 rintro⟨a,h,hn⟩;by_cases l:a.1∈a.2;.rw[if_pos l]at hn;cases hn
 rw[if_neg l]at hn;cases hn;exact⟨a,h,rfl,l⟩
def ZC2{z:Y}:z∈Zmi t↔z∈fv (.pr t) []:=by rw[<-Zye];have⟨_,k2,_⟩:=Zbs (Jy (.pr t) []) [] List.nodup_nil;unfold XL Zmi;rw[k2,Zo2];simp
def Zgu(l:10^19<=F)(t:Term)(h:(pre (.pr t)).all UF=true)(hn:(pre (.pr t)).length<=60):ZwC F t=some (Zid t):=by have⟨a,b⟩:=ZB4 hn;have r:=Zn6 t;have⟨⟨b',e⟩,_⟩:=ZQU (m:=2) (x:=(⟨#[]⟩:Y)) (free:=[]) l (by decide) (Gq _) 60 V7 t h hn F V6 (Zmi t) ⟨[],[]⟩ [] false 0 ZGt (fun z v hv=>by cases hv) (by simp[GF];unfold ln;omega) (by unfold ln;omega);have⟨q,_⟩:=ZAX.1 t (tk0 t) [] (Zmi t) 0 h hn ⟨a,by unfold ln;omega⟩ (fun z=>by unfold tk0;rw[Zye,ZC2]) (by unfold ln;omega);unfold ZwC;rw[ZEq l t h hn,Bq0];show((ZIY F ⟨2,(⟨#[]⟩:Y),[],Zmi t,false⟩ ⟨[],[]⟩ t).bind fun p=>some p.2)=_;unfold ZIY;rw[e,Bq0];exact congrArg some q
def ZJ0(m:10^19<=F)(t:Term)(p:Lo (.pr t))(l:(pre (.pr t)).length<=F):ZE2 F t=some (bif J9 AgW (.pr t) then(Zid t,(0:Int)) else(.mk 0 (⟨#[]⟩:Y) [] [] [],2)):=by
 unfold ZE2;rw[ZrC m t p l,Bq0];cases h:J9 AgW (.pr t) with|false=>rfl|true=>
   have⟨a,b⟩:=Kb h;simp[Cq1];rw[Zgu m t a b];rfl
def ZKf(l:10^19<=F)(a b:Term)(r:Lo (.pr a))(t:Lo (.pr b))(q:ln (.pr a)<=F)(p:ln (.pr b)<=F):ZAF F a b=some (bif J9 AgW (.pr a)&&J9 AgW (.pr b) then(Js (Zid a) (Zid b),(0:Int)) else(false,2)):=by
 unfold ZAF;rw[ZrC l a r q,ZrC l b t p,Bq0];cases h:J9 AgW (.pr a) with|false=>rfl|true=>
   cases h2:J9 AgW (.pr b) with|false=>rfl|true=>
     have⟨a1,a2⟩:=Kb h;have⟨b1,b2⟩:=Kb h2;have⟨c1,c2⟩:=ZrF h;simp[Cq1,Bool.and_self];rw[Zgu l a a1 a2,Zgu l b b1 b2];show((Zt8 F (Zid a) (Zid b)).bind fun m=>some (m,(0:Int)))=_;rw[same_eq l _ _ c1 (by unfold ln at c2;omega)];rfl
def ZnI(p:10^19<=F)(a b:Term)(t:Lo (.pr a))(y:Lo (.pr b))(l:ln (.pr a)<=F)(r:ln (.pr b)<=F):ZAL F a b=some true:=by
 have x:∀{q:Type}(m:O q)(d:q),gd true m d=m:=fun _ _=>rfl;have D:∀{q:Type}(m:O q)(d:q),gd false m d=some d:=fun _ _=>rfl;have B:((0:Int)==0)=true:=rfl;have C:((2:Int)==0)=false:=rfl;unfold ZAL;rw[ZKg p a b t y l r,ZKf p a b t y l r,ZJ1 p a t l,ZJ0 p a t l];simp[Bq0,beq_self_eq_true,Bool.and_self,x];cases h:J9 AgW (.pr a) with
 | false=>
   simp[Cq0];have z:=ZHy p;have E:Zt8 F (.mk 0 (⟨#[]⟩:Y) [] [] []) (.mk 0 (⟨#[]⟩:Y) [] [] [])=some true:=by rw[same_eq p _ _ Zx1 (by rw[Qe];simp[Ya];omega),Zh8]
   rw[E];simp[Bq0,C,G9,Bool.and_self,G3,beq_self_eq_true,x,z,Gk];rfl
 | true=>
   have⟨c1,c2⟩:=ZrF h;have A:=same_eq p (Zid a) (Zid a) c1 (by unfold ln at c2 l;omega);rw[Zh8]at A;simp[Cq1,A,Bq0,B,Q1,Bool.and_false,Bool.and_self,G3,beq_self_eq_true,x,D,Bool.true_or];rfl
def ZnJ(a b:Term)(h:Lo (.pr a))(l:Lo (.pr b)):ZAL (Zmg a+Zmg b) a b=some true:=ZnI (by unfold Zmg;omega) a b h l (by unfold Zmg ln;omega) (by unfold Zmg ln;omega)
section
open Go.ChangeShapes Go.WideShapes Go.ChangeAt Go.RowKit Go.Z9 Go.Lf
def ZR7:K8 XX.P Zw Ziu 33:=ZR3
def ZAn(H:Type)(enc:J×N->H)(W:GY){y t:N}{E D:DataW H}{I p1:U MemPlace}
 (hv0:∃cs,y=.agg cs)
 (B:DataW.Trod enc prog W 0 (fun _=>true) true 33 y E I)
 (A:∃cs,t=.agg cs)
 (h1:DataW.Trod enc prog W 0 (fun _=>true) true 33 t D p1):
 Calls prog 10 #[y,t] W fun e W'=>e=.returned (.bool true)/\Below W.heap.size W W':=by
 obtain⟨g0,B⟩:=B;obtain⟨c0,rfl⟩:=hv0;obtain⟨g1,h1⟩:=h1;obtain⟨X,rfl⟩:=A
 obtain⟨ρ,l,C,r1,r2,r3,r4⟩:=ZJN (P:=prog) (W:=W) [(33,(Value.agg c0).cells.toList,E),(33,(Value.agg X).cells.toList,D)] (fun x T=>by
  simp[Ks,Q2,or_false]at T;rcases T with rfl|rfl
  ·exact ZVH Zsg g0 33 _ E I (by decide) B
  ·exact ZVH Zsg g1 33 _ D p1 (by decide) h1)
 match C,r3,r4 with
 | [e0,h],_,r4=>
   obtain⟨S,a0⟩:=r4 0 e0 _ rfl rfl;obtain⟨m0,K,z0,w0,q⟩:=ZR7.2 a0;rw[z0]at S;have L0:=Zyg (q l.size) w0;replace q:=fun L=>XR.1 (q L);obtain⟨Z1I,Z1H,Z1G⟩:=q l.size;obtain⟨Q,a1⟩:=r4 1 h _ rfl rfl;obtain⟨m1,G,z1,w1,p⟩:=ZR7.2 a1;rw[z1]at Q;have L1:=Zyg (p l.size) w1;replace p:=fun L=>XR.1 (p L);obtain⟨Z1F,Z1E,Z1D⟩:=p l.size;have hj:YW XX _ _:=ZP0 (F:=(Zmg K+Zmg G)) (r:=true) Z1I Z1H Z1G Z1F Z1E Z1D (ZnJ K G L0 L1) l.size
   have hc:=Zov (hj ρ #[.agg c0,.agg X] W V7 r1 ⟨rfl,fun i v v' h m=>by
    match i with
    | 0=>
      simp at h m;subst h m;exact ZxK S
    | 1=>
      simp at h m;subst h m;exact ZxK Q
    | i+2=>simp at h⟩)
   refine hc.mono fun e w' ⟨ρ',he,_,st⟩=>⟨?_,st.below fun i b d _ _ V=>by rw[r2 i]at V;cases V⟩;cases he with
   | ret hv=>cases hv;rfl
def ZsY:laidOutB prog=true:=Kq0
def ZHF:ownKnob prog.godebug=none:=Kq0
def Zv0(L:Os)(h:L.Started)(H:Type)(enc:J×N->H):
 ReturnsInHanded {} Tryz.checked L 10 .any (Rows.termAlikesSpec.pre6 enc prog f10 Rows.termAlikesRow.domain false) (Rows.termAlikesSpec.post enc prog f10 false true false false):=by
 refine returnsInHanded_of_change (C:=Tryz.checked) ZHF h Kq0 func10
  (ChangeSpec.witness6 (enc:=enc) (C:=Tryz.checked) false ⟨#[],#[.agg #[V4 0,.string ⟨#[]⟩,V3,V3,V3],.agg #[V4 0,.string ⟨#[]⟩,V3,V3,V3]],[]⟩ 8 Kq0 Kq0 Kq0 Kq0) ?_
 intro W base args ds gs E l Q P _;have m:∀(j:Nat) t v,f10.params[j]? =some t->args[j]? =some v->Value.okWide prog W .any base t v:=l;have y:=Q;obtain⟨p,q,D,hV,rfl,hfz,hnd⟩:=Q;have S:DataW.TrodAll enc prog W 0 (fun _=>true) true f10.params.toList args.toList ds p:=D;rw[Tryz.params10]at S m;obtain⟨K,G,d0,d1,I,p1,rfl,rfl,rfl,T,h1⟩:=trodAll_two S;obtain⟨rfl,rfl⟩:=trodVars_none hV;clear D l;simp[G8]at y;have k0:=m 0 33 K rfl rfl;have X:∃cs,K=.agg cs:=by have⟨cs,hcs,_⟩:=okWide_struct underlying33 k0;exact⟨cs,hcs⟩
 have k1:=m 1 33 G rfl rfl;have V:∃cs,G=.agg cs:=by have⟨cs,hcs,_⟩:=okWide_struct underlying33 k1;exact⟨cs,hcs⟩
 have B:∀x∈I++p1,x.block<W.heap.size:=fun x r=>y.lt x r;refine(ZAn H enc W X T V h1).mono fun e W' ⟨he,F⟩=>?_;subst he
 exact⟨_,rfl,Zn8 (pa:=I++p1) (pv:=[]) y (fun _ _ _=>(trodAll_cons_mk (shut_bool underlying4 _) trodAll_mk0))
  (fun sp A=>trodAll_mk2 (WideElems.Trod_stays ZsY Kq0 (of_decide_eq_true Kq0) T (fun x r=>F.same (B x (GH _ r))) (fun x r=>A x (GH _ r)))
    (WideElems.Trod_stays ZsY Kq0 (of_decide_eq_true Kq0) h1 (fun x r=>F.same (B x (Gz _ r))) (fun x r=>A x (Gz _ r)))) (fun _ _=>rfl) Vd
  F (ok_one Kq0 rfl (okWide_bool_mk underlying4 _))⟩
def ZC9:Rows.termAlikesRow.holds Tryz.pinned (OpenSpec.ofChange Rows.termAlikesSpec):=
 OpenClaim.holds_of_wide 10 f10 rfl rfl rfl rfl rfl rfl rfl ⟨rfl,rfl,rfl,rfl,rfl⟩ rfl rfl rfl rfl rfl Kq0 func10 Kq0
  (of_decide_eq_true Kq0) (by unfold Func.isWrapper;first | (rw[if_pos (by decide +kernel)];kernel_rfl) | (rw[if_neg (by decide +kernel)];exact⟨rfl,rfl⟩))
  (fun os started H enc _=>Zv0 os started H enc)
theorem law_holds:Rows.TermAlikesSaid:=ZC9
#print axioms law_holds
end
end Go.Proofs.YtbnepjakjmnadaaGreat
end
end
