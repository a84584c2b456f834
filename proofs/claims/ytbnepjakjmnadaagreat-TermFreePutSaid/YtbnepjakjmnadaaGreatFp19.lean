/- Part 19. -/
import Derived.Test.YtbnepjakjmnadaaGreatFp18
set_option linter.all false
set_option maxHeartbeats 2000000
section
noncomputable section
namespace Go.Proofs.YtbnepjakjmnadaaGreat
open Go.Lf
section
abbrev CH:=U Y×MN
def dj(s:CH)(t:Y):CH:=bif has s.2 t then s else(s.1++[t],Yk s.2 t true)
def ZJB(s:CH)(t:Y):(dj s t).1.length<=s.1.length+1:=by
 unfold dj;cases has s.2 t<;>simp
def Zon(l:U Y):∀s:CH,(l.foldl dj s).1.length<=s.1.length+l.length:=by
 induction l with
 | nil=>intro s;simp
 | cons t l ih=>intro s;rw[Gq];have:=ih (dj s t);have:=ZJB s t;simp only[KK];omega
structure DS where
 c:CH
 pl:List ByteArray
 at_:Nat
def JY(s:DS)(sp:Spt):DS:=⟨((jns sp.2).map (·.qJ)).foldl dj s.c,bif decide (0<s.at_) then s.pl++[sp.1] else s.pl,s.at_+1⟩
abbrev RD:=Z×(U Y)×(U Y)×Int×MN
def Zwa(s:DS):RD:=(true,s.c.1,s.pl,(s.at_:Int),s.c.2)
def Zq7{F:Nat}(hF:10000000000000000000<=F)(i:Int)(nx:Int×(U Y)×MN->O RD)(x:Za)(hx:x.qG.length<=3)(s:CH)(hs:s.1.length<=100000):
 loop F (ZgY i nx x) (0,s.1,s.2)=nx (XO (i+1),((x.qG.map (·.qJ)).foldl dj s).1,((x.qG.map (·.qJ)).foldl dj s).2):=by
 refine Yt (body:=ZgY i nx x) (fun(k:Nat)(s:CH)=>((k:Int),s.1,s.2)) x.qG (fun rest s=>s.1.length+rest.length<=200000) (fun rest s=>nx (XO (i+1),((rest.map (·.qJ)).foldl dj s).1,((rest.map (·.qJ)).foldl dj s).2)) (F:=F) ?_ ?_ Vg s Vg
 ·intro s nx' _;simp only[ZgY,Z6,Cq0];rfl
 ·intro j y rest s nx' hy hj hg hp ih;simp only[KK]at hp;simp only[ZgY,Zj9,ZR hj,Cq1,hg,Bq0,Zce];rw[Jj Vg,app1 Vg Vg];simp only[Bq0,Gd,Gq];cases hh:has s.2 y.qJ
  ·have e:dj s y.qJ=(s.1++[y.qJ],Yk s.2 y.qJ true):=by unfold dj;rw[hh];rfl
   rw[e];exact ih (s.1++[y.qJ],Yk s.2 y.qJ true) (by simp;omega)
  ·have e:dj s y.qJ=s:=by unfold dj;rw[hh];rfl
   rw[e];exact ih s Vg
def Zq4{F:Nat}(hF:10000000000000000000<=F)(l rules:U Za)(a:Nat)(ha:a<=2000)(n1:Y×(U Za)×(U Y)×(U Y)×Int×MN->O RD)(pl:U Y)(hr:rules.length<=60)(hx:∀x∈rules,x.qG.length<=3)(s:CH)(hs:s.1.length<=50000):
 loop F (ZgZ F l (a:Int) n1 rules pl) (0,s.1,s.2)=loop F (Zcv l n1) (0,((a+1:Nat):Int),(((jns rules).map (·.qJ)).foldl dj s).1,pl,(((jns rules).map (·.qJ)).foldl dj s).2):=by
 refine Yt (body:=ZgZ F l (a:Int) n1 rules pl) (fun(k:Nat)(s:CH)=>((k:Int),s.1,s.2)) rules (fun rest s=>s.1.length+3*rest.length<=60000) (fun rest s=>loop F (Zcv l n1) (0,((a+1:Nat):Int),(((jns rest).map (·.qJ)).foldl dj s).1,pl,(((jns rest).map (·.qJ)).foldl dj s).2)) (F:=F) ?_ ?_ Vg s Vg
 ·intro s nx' _;simp only[ZgZ,Z6,Cq0,QP];rw[Jj Vg];rfl
 ·intro j y rest s nx' hy hj hg hp ih;simp only[KK]at hp;have h3:=hx y hy;simp only[ZgZ,ZR hj,Cq1,hg,Bq0];rw[Zq7 hF _ _ y h3 s Vg,Jj Vg];refine(ih ((y.qG.map (·.qJ)).foldl dj s) ?_).trans ?_
  ·have:=Zon (y.qG.map (·.qJ)) s;rw[Gf]at this;omega
  ·unfold jns;rw[Ks,List.map_append,List.foldl_append]
def ZuD{l:U Za}(h:∀c∈l,OkC c):(jns l).length<=3*l.length:=by
 induction l with
 | nil=>simp[jns]
 | cons c l ih=>
   have a:=ih fun d hd=>h d (Kf _ hd)
   have b:=(h c (by simp)).1;unfold jns at a ⊢;rw[Ks,K2,KK];omega
def ZvV(s:DS){sp:Spt}(h:OkS sp):(JY s sp).c.1.length<=s.c.1.length+180/\(JY s sp).pl.length<=s.pl.length+1/\(JY s sp).at_=s.at_+1:=by
 obtain⟨h1,h2⟩:=h;refine⟨?_,?_,rfl⟩
 ·have:=Zon ((jns sp.2).map (·.qJ)) s.c;have:=ZuD h2;rw[Gf]at *;show((jns sp.2).map (·.qJ) |>.foldl dj s.c).1.length<=_;omega
 ·unfold JY;dsimp only;cases decide (0<s.at_)<;>simp
def ZgR:∀(l:U Spt)(s:DS),(∀sp∈l,OkS sp)->(l.foldl JY s).c.1.length<=s.c.1.length+180*l.length/\(l.foldl JY s).pl.length<=s.pl.length+l.length/\(l.foldl JY s).at_=s.at_+l.length
 | [],s,_=>by simp
 | sp::l,s,h=>by
   have a:=ZvV s (h sp (by simp));have b:=ZgR l (JY s sp) fun x hx=>h x (Kf _ hx)
   rw[Gq];simp only[KK];omega
def Zvy(s:DS)(n:Nat):Prop:=s.c.1.length+180*n<=20000/\s.pl.length+n<=1000/\s.at_+n<=1000
def ZEF{F:Nat}(hF:10000000000000000000<=F):∀n (nm:Y) (l:U Za) (s:DS),(l.flatMap X9).length<=n->OkS (nm,l)->(∀sp∈l.flatMap X9,OkS sp)->Zvy s ((l.flatMap X9).length+1)->∀Fr,n<Fr ->
 loop Fr (Zct F) (nm,l,s.c.1,s.pl,(s.at_:Int),s.c.2)=some (Zwa (((nm,l)::l.flatMap X9).foldl JY s)):=by
 intro n
 induction n using Nat.strongRecOn with
 | _ n ih=>
   intro nm l s hn hok ZDn hs1 Fr hFr;obtain⟨G,rfl⟩:∃G,Fr=G+1:=⟨Fr-1,by omega⟩
   rw[Ya]
   have hih:∀c∈l,c.qV=2->∀s:DS,Zvy s (X9 c).length->loop G (Zct F) (c.qJ,c.qK,s.c.1,s.pl,(s.at_:Int),s.c.2)=some (Zwa ((X9 c).foldl JY s)):=fun c hc hf s hs=>by
    have e:X9 c=(c.qJ,c.qK)::c.qK.flatMap X9:=by rw[UH,hf];rfl
    have hle:(X9 c).length<=(l.flatMap X9).length:=Zjd hc;have hm:∀sp∈X9 c,OkS sp:=fun sp hsp=>ZDn sp (Q3.2 ⟨c,hc,hsp⟩)
    rw[e]at hle hm hs ⊢;simp only[KK]at hle hs;exact ih (n-1) Vg c.qJ c.qK s Vg (hm _ (by simp)) (fun sp hsp=>hm sp (by simp[hsp])) hs G Vg
   generalize loop G (Zct F)=n1 at hih;have hok':=hok;obtain⟨hl,hoc⟩:=hok;dsimp only at hl hoc;obtain⟨r1,r2,r3⟩:=hs1
   have hb3:∀s:DS,Zvy s (l.flatMap X9).length->loop F (Zcv l n1) (0,(s.at_:Int),s.c.1,s.pl,s.c.2)=some (Zwa ((l.flatMap X9).foldl JY s)):=fun s hs=>by
    refine Yt (body:=Zcv l n1) (fun(k:Nat)(s:DS)=>((k:Int),(s.at_:Int),s.c.1,s.pl,s.c.2)) l (fun rest s=>Zvy s (rest.flatMap X9).length) (fun rest s=>some (Zwa ((rest.flatMap X9).foldl JY s))) (F:=F) ?_ ?_ Vg s hs
    ·intro s nx _;simp only[Zcv,Z6,Cq0];rfl
    ·intro k c rest s nx hc hk hg hp ihl;simp only[Zcv,ZR hk,Cq1,hg,Bq0];rw[Jj Vg];rw[Ks,K2]at hp;rw[Ks,List.foldl_append];obtain⟨p1,p2,p3⟩:=hp;rcases(hoc c hc).2 with h1|⟨h2,_⟩
     ·have e:X9 c=[]:=by rw[UH,h1];rfl
      rw[h1];rw[e]at p1 p2 p3 ⊢;simp only[GQ,G4]at p1 p2 p3;exact ihl s ⟨p1,p2,p3⟩
     ·rw[h2];simp only[Int.reduceBEq,Cq1];rw[hih c hc h2 s ⟨by omega,by omega,by omega⟩,Bq0];have hfl:=ZgR (X9 c) s fun sp hsp=>ZDn sp (Q3.2 ⟨c,hc,hsp⟩)
      exact ihl ((X9 c).foldl JY s) ⟨by omega,by omega,by omega⟩
   have hj2:∀pl:U Y,pl.length+(l.flatMap X9).length<=1000->(Zcu F l s.c.1 (s.at_:Int) s.c.2 n1 (l.filter fun c=>c.qV==1)) pl=some (Zwa ((l.flatMap X9).foldl JY ⟨((jns l).map (·.qJ)).foldl dj s.c,pl,s.at_+1⟩)):=fun pl hpl=>by
    unfold Zcu;have hfl:(l.filter fun c=>c.qV==1).length<=l.length:=List.length_filter_le _ _;rw[Zq4 hF l _ s.at_ Vg n1 pl Vg (fun x hx=>(hoc x (GP.1 hx).1).1) s.c Vg,ZjD hoc];have h1:=Zon ((jns l).map (·.qJ)) s.c;have h2:=ZuD hoc;rw[Gf]at h1;exact hb3 ⟨((jns l).map (·.qJ)).foldl dj s.c,pl,s.at_+1⟩ ⟨by dsimp only;omega,by dsimp only;omega,by dsimp only;omega⟩
   unfold Zct;dsimp only;have:=Yt (body:=Zkb F nm l s.c.1 s.pl (s.at_:Int) s.c.2 n1) (fun(k:Nat)(a:U Za)=>((k:Int),a)) l (fun rest a=>a.length+rest.length<=60) (fun rest a=>(bif decide ((s.at_:Int)>0) then(app 16 s.pl [nm]).bind fun ZxE=>(Zcu F l s.c.1 (s.at_:Int) s.c.2 n1 (a++rest.filter fun c=>c.qV==1)) ZxE else(Zcu F l s.c.1 (s.at_:Int) s.c.2 n1 (a++rest.filter fun c=>c.qV==1)) s.pl)) (F:=F) ?_ ?_ Vg [] (by simpa using hl)
   ·refine this.trans ?_;rw[app1 (l:=s.pl) (x:=nm) Vg Vg];simp only[Ge,Bq0,gt0];rw[hj2 s.pl Vg,hj2 (s.pl++[nm]) (by simp only[K2,List.length_singleton];omega)];show _=some (Zwa ((l.flatMap X9).foldl JY (JY s (nm,l))));unfold JY;cases decide (0<s.at_)<;>rfl
   ·intro a nx _;simp only[Zkb,Z6,Cq0,List.filter_nil,Gn]
   ·intro k c rest a nx hc hk hg hp ihl;simp only[KK]at hp;simp only[Zkb,ZR hk,Cq1,hg,Bq0,Zka];rw[Jj Vg];cases hf:c.qV==1
    ·rw[List.filter_cons_of_neg (by simp[hf])];exact ihl a Vg
    ·rw[List.filter_cons_of_pos (p:=fun c:Za=>c.qV==1) hf];simp only[Cq1];rw[app1 Vg Vg,Bq0,ihl _ (by simp;omega),Gc];rfl
def ZnU:∀(l:U Spt)(s:DS),(l.foldl JY s).c=(l.flatMap fun sp=>(jns sp.2).map (·.qJ)).foldl dj s.c
 | [],_=>rfl
 | sp::l,s=>by rw[Gq,ZnU l,Ks,List.foldl_append];rfl
def Zqv:∀(l:U Spt)(s:DS),0<s.at_->(l.foldl JY s).pl=s.pl++l.map (·.1)
 | [],s,_=>by simp
 | sp::l,s,h=>by
   rw[Gq,Zqv l _ (by unfold JY;dsimp only;omega)];unfold JY;rw[decide_eq_true h];simp
def ZdR(l:U Za):U Y×U Y:=(((((E0,l)::l.flatMap X9).flatMap fun sp=>(jns sp.2).map (·.qJ)).foldl dj ([],[])).1,Zas l)
def ZA6{F:Nat}(hF:10000000000000000000<=F)(l:List Za)(hl:OkS (E0,l))(hs:∀sp∈l.flatMap X9,OkS sp)(hn:(l.flatMap X9).length<=60):ZsZ F l=some (ZdR l):=by
 unfold ZsZ;have h:=ZEF hF _ E0 l ⟨([],[]),[],0⟩ Vh hl hs ⟨by dsimp only[List.length_nil];omega,by dsimp only[List.length_nil];omega,by dsimp only;omega⟩ F Vg;have e:loop F (Zct F) (E0,l,[],[],0,[])=_:=h;rw[e,Bq0];show some (_,_)=some (ZdR l);unfold ZdR;rw[ZnU,List.foldl_cons,Zqv _ _ (Nat.succ_pos _)]
 rfl
def ZdM:U Y->Y->U Y
 | [],s=>[s]
 | x::l,s=>bif ZdV x s then x::ZdM l s else s::x::l
def ZdK(out B:U Y)(s:Y):U Y:=if s∈B\/s∈out then out else ZdM out s
def Zt2{l:U Y}{a b:Nat}(h:a<=b)(hb:b<=l.length):slL l (a:Int) (b:Int)=some ((l.take b).drop a):=by
 unfold slL;rw[decide_eq_true Vg,decide_eq_true Vg,decide_eq_true Vg];simp
def Zjr{l:U Y}{s x:Y}:x∈ZdM l s↔x=s\/x∈l:=by
 induction l with
 | nil=>simp[ZdM]
 | cons y l ih=>
   unfold ZdM;cases ZdV y s
   ·simp
   ·simp only[Cq1,Kd,ih]
    constructor
    ·rintro(h|h|h)<;>simp[h]
    ·rintro(h|h|h)<;>simp[h]
def Zy6(l:U Y)(s:Y):(ZdM l s).length=l.length+1:=by
 induction l with
 | nil=>rfl
 | cons y l ih=>
   unfold ZdM;cases ZdV y s
   ·rfl
   ·simp only[Cq1,KK,ih]
def put_eq{F:Nat}(hF:10000000000000000000<=F)(out B:U Y)(s:Y)(ho:out.length<=100000)(hB:B.length<=800000):ZqL F out B s=some (ZdK out B s):=by
 unfold ZqL ZdK;rw[has_eq F B s Vg Vg,Bq0];by_cases h1:s∈B
 ·rw[decide_eq_true h1,if_pos (.inl h1)];rfl
 ·rw[decide_eq_false h1];simp only[GA,Ziq];rw[has_eq F out s Vg Vg,Bq0];by_cases h2:s∈out
  ·rw[decide_eq_true h2,if_pos (.inr h2)];rfl
  ·rw[decide_eq_false h2,if_neg (by simp[h1,h2])];simp only[Bool.or_false,Cq0]
   have fin:∀k:Nat,k<=out.length->((slL out (k:Int) (out.length:Int)).bind fun z15=>(app 16 [s] z15).bind fun z19=>(slL out 0 (k:Int)).bind fun z25=>(app 16 ([]:U Y) z25).bind fun z29=>(app 16 z29 z19).bind fun z33=>some z33)=some (out.take k++s::out.drop k):=fun k hk=>by
    have e0:slL out 0 (k:Int)=some ((out.take k).drop 0):=Zt2 (a:=0) (Gv _) hk;rw[Zt2 hk Vh,e0];simp only[Bq0,List.take_length,List.drop_zero];have a1:app 16 [s] (out.drop k)=some ([s]++out.drop k):=Ws (by simp;omega) Vg;have a2:app 16 ([]:U Y) (out.take k)=some ([]++out.take k):=Ws (by simp;omega) Vg;rw[a1,a2];simp only[Bq0,Ge];have a3:app 16 (out.take k) ([s]++out.drop k)=some (out.take k++([s]++out.drop k)):=Ws (by simp;omega) Vg;rw[a3];rfl
   have:=Zsx (body:=ZfN out s) (fun(k:Nat)(_:Unit)=>(k:Int)) out (fun k rest _=>rest=out.drop k) (fun k rest _=>some (out.take k++ZdM rest s)) (F:=F) ?_ ?_ Vg () (by simp)
   ·simpa using this
   ·intro _ nx _;simp only[ZfN,Z6,Zz6,Bq0,Bool.false_and,Cq0];rw[fin _ Vh];simp[ZdM]
   ·intro k x rest _ nx hx hk hg hp ih;simp only[ZfN,ZR hk,Ziq,hg,Bq0,GG];have hd:out.drop k=out[k]::out.drop (k+1):=List.drop_eq_getElem_cons hk;rw[hd]at hp;obtain⟨rfl,rfl⟩:=List.cons.inj hp;rw[Jj Vg];unfold ZdM;cases hc:ZdV out[k] s
    ·simp only[Cq0];rw[fin k Vg,hd]
    ·simp only[Cq1];rw[ih () rfl,List.take_succ_eq_append_getElem hk,Gc];rfl
def nm1:Part->U Y
 | .ex e=>bif e.op==2 then [e.qJ] else []
 | _=>[]
def Qj(e:Ze):U Y:=(pre (.ex e)).flatMap nm1
def Zjj(e:Ze):Qj e=(bif e.op==2 then [e.qJ] else [])++e.qQ.flatMap Qj:=by
 unfold Qj;rw[pre_eq,Ks];show nm1 (.ex e)++_=nm1 (.ex e)++_;congr 1;show((e.qQ.map Part.ex).flatMap pre).flatMap nm1=_;rw[List.flatMap_assoc,List.flatMap_map]
def puts(B:U Y)(l:U Y)(out:U Y):U Y:=l.foldl (fun o s=>ZdK o B s) out
def Zja(o B:U Y)(s:Y):(ZdK o B s).length<=o.length+1:=by
 unfold ZdK;split
 ·omega
 ·rw[Zy6];omega
def Zi9(B:U Y):∀(l o:U Y),(puts B l o).length<=o.length+l.length
 | [],o=>by simp[puts]
 | s::l,o=>by
   have:=Zi9 B l (ZdK o B s);have:=Zja o B s;show(puts B l (ZdK o B s)).length<=_;simp only[KK];omega
def Zhw(B a b o:U Y):puts B (a++b) o=puts B b (puts B a o):=List.foldl_append
def Zfd(e:Ze):(Qj e).length<=(pre (.ex e)).length:=by
 unfold Qj;generalize pre (.ex e)=l
 induction l with
 | nil=>simp
 | cons p l ih=>
   rw[Ks,K2,KK]
   have:(nm1 p).length<=1:=by
    cases p with
    | ex e=>show(bif e.op==2 then [e.qJ] else []).length<=1;cases e.op==2<;>simp
    | _=>exact Gv _
   omega
def ZsR{F:Nat}(hF:10000000000000000000<=F)(B:U Y)(hB:B.length<=800000):∀n e (out:U Y),(pre (.ex e)).length<=n->n<=60->out.length+(Qj e).length<=20000->∀Fr,n<=Fr->loop Fr (Zj3 F) (out,B,e)=some (puts B (Qj e) out):=by
 intro n
 induction n with
 | zero=>intro e out hn;have:=Xk (.ex e);omega
 | succ n ih=>
   intro e out hn h60 ho Fr hFr;obtain⟨G,rfl⟩:∃G,Fr=G+1:=⟨Fr-1,by omega⟩
   rw[Ya];have hih:∀x∈e.qQ,∀o:U Y,o.length+(Qj x).length<=20000->loop G (Zj3 F) (o,B,x)=some (puts B (Qj x) o):=fun x hx o ho=>ih x o (by have:=YI (Qz hx);omega) Vg ho G Vg
   have hkl:e.qQ.length<(pre (.ex e)).length:=by have:=Za0 (.ex e);simpa[ZJ]using this
   generalize loop G (Zj3 F)=n1 at hih
   have hj:∀o:U Y,o.length+(e.qQ.flatMap Qj).length<=20000->ZgU F B e n1 o=some (puts B (e.qQ.flatMap Qj) o):=fun o ho=>by
    unfold ZgU;refine Yt (body:=Zj4 B e n1) (fun(k:Nat)(o:U Y)=>(o,(k:Int))) e.qQ (fun rest o=>o.length+(rest.flatMap Qj).length<=20000) (fun rest o=>some (puts B (rest.flatMap Qj) o)) (F:=F) ?_ ?_ Vg o ho
    ·intro o nx _;simp only[Zj4,Z6,Cq0];rfl
    ·intro k x rest o nx hx hk hg hp ihl;rw[Ks,K2]at hp;simp only[Zj4,ZR hk,Cq1,hg,Bq0,hih x hx o Vg];rw[Jj Vg,Ks,Zhw];exact ihl _ (by have:=Zi9 B (Qj x) o;omega)
   rw[Zjj,Zhw];rw[Zjj,K2]at ho;unfold Zj3;dsimp only;cases h2:e.op==2<;>rw[h2]at ho
   ·exact hj out Vg
   ·simp only[Cq1,List.length_singleton]at ho ⊢;rw[put_eq hF out B e.qJ Vg hB,Bq0];exact hj _ (by have:=Zja out B e.qJ;omega)
def Zv(js:U YJ):U Y:=js.flatMap (·.names)
def bnd(t:Term)(B:U Y):U Y:=bif t.op==4 then B++((ZdR t.qK).1++(ZdR t.qK).2) else B
abbrev Evt:=Y×U Y
def Jf(p:Part)(B:U Y):U Evt:=
 match p with
 | .ex e=>(Qj e).map fun s=>(s,B)
 | .pr t=>(if t.qJ=E0 then [] else [(t.qJ,B)])++((t.args.flatMap Qj).map fun s=>(s,B))++(t.qK.attach.flatMap (fun c=>Jf (.cl c.1) (bnd t B))++t.qQ.attach.flatMap (fun k=>Jf (.pr k.1) (bnd t B)))
 | .cl c=>c.qK.attach.flatMap (fun d=>Jf (.cl d.1) B)++c.qQ.attach.flatMap (fun k=>Jf (.pr k.1) (B++Zv c.qG))
termination_by pz p
decreasing_by
 ·exact UK (QA c.2)
 ·exact UK (Qa k.2)
 ·exact UK (Xn d.2)
 ·exact UK (Xe k.2)
def Zoe(t:Term)(B:U Y):Jf (.pr t) B=(if t.qJ=E0 then [] else [(t.qJ,B)])++((t.args.flatMap Qj).map fun s=>(s,B))++(t.qK.flatMap (fun c=>Jf (.cl c) (bnd t B))++t.qQ.flatMap (fun k=>Jf (.pr k) (bnd t B))):=by
 rw[Jf,Uw t.qK fun c=>Jf (.cl c) (bnd t B),Uw t.qQ fun k=>Jf (.pr k) (bnd t B)]
def Zkv(c:Za)(B:U Y):Jf (.cl c) B=c.qK.flatMap (fun d=>Jf (.cl d) B)++c.qQ.flatMap (fun k=>Jf (.pr k) (B++Zv c.qG)):=by
 rw[Jf,Uw c.qK fun d=>Jf (.cl d) B,Uw c.qQ fun k=>Jf (.pr k) (B++Zv c.qG)]
def Zao(l:U Evt)(out:U Y):U Y:=l.foldl (fun o e=>ZdK o e.2 e.1) out
def Zv7(B:U Y)(l:U Y)(o:U Y):Zao (l.map fun s=>(s,B)) o=puts B l o:=by
 unfold Zao puts;rw[List.foldl_map]
def ZlV:∀(l:U Evt)(o:U Y),(Zao l o).length<=o.length+l.length
 | [],o=>by simp[Zao]
 | e::l,o=>by
   have:=ZlV l (ZdK o e.2 e.1);have:=Zja o e.2 e.1;show(Zao l (ZdK o e.2 e.1)).length<=_;simp only[KK];omega
def ZyQ{o B:U Y}{s x:Y}:x∈ZdK o B s↔x∈o\/(x=s/\s∉B):=by
 unfold ZdK;by_cases h:s∈B\/s∈o
 ·rw[if_pos h]
  constructor
  ·exact .inl
  ·rintro(h1|⟨rfl,h1⟩)
   ·exact h1
   ·rcases h with h|h
    ·exact absurd h h1
    ·exact h
 ·rw[if_neg h,Zjr];have h1:s∉B:=fun z=>h (.inl z)
  constructor
  ·rintro(h2|h2)
   ·exact .inr ⟨h2,h1⟩
   ·exact .inl h2
  ·rintro(h2|⟨h2,_⟩)
   ·exact .inr h2
   ·exact .inl h2
def Zdi:∀(l:U Evt)(o:U Y)(x:Y),x∈Zao l o↔x∈o\/∃e∈l,x=e.1/\e.1∉e.2
 | [],o,x=>by simp[Zao]
 | e::l,o,x=>by
   show x∈Zao l (ZdK o e.2 e.1)↔_;rw[Zdi l,ZyQ]
   constructor
   ·rintro((h|h) | ⟨e',he,h⟩)
    ·exact .inl h
    ·exact .inr ⟨e,by simp,h⟩
    ·exact .inr ⟨e',by simp[he],h⟩
   ·rintro(h|⟨e',he,h⟩)
    ·exact .inl (.inl h)
    ·rcases Kd.1 he with rfl|he
     ·exact .inl (.inr h)
     ·exact .inr ⟨e',he,h⟩
def Zq8{l:U Za}(hl:OkS (E0,l))(hs:∀sp∈l.flatMap X9,OkS sp)(hn:(l.flatMap X9).length<=60):(ZdR l).1.length<=10980/\(ZdR l).2.length<=60:=by
 have hok:∀sp∈(E0,l)::l.flatMap X9,OkS sp:=fun sp hsp=>by
  rcases Kd.1 hsp with rfl|h
  ·exact hl
  ·exact hs sp h
 have h:=ZgR _ ⟨([],[]),[],0⟩ hok;rw[ZnU]at h;simp only[KK,GQ]at h;refine⟨?_,by unfold ZdR Zas;rw[Gf];exact hn⟩;exact KB h.1 Vg
def Zvf(p:Part):∀B,(Jf p B).length<=(pre p).length:=by
 induction p using KZ with
 | h p ih=>
   intro B
   have hfl:∀{α:Type}(l:U α)(c:α->Part)(B:U Y),(∀x∈l,c x∈ZJ p)->(l.flatMap fun x=>Jf (c x) B).length<=((l.map c).flatMap pre).length:=by
    intro α l c B
    induction l with
    | nil=>intro _;simp
    | cons x l ihl=>
      intro h;have a:=ih (c x) (h x (by simp)) B;have b:=ihl fun y hy=>h y (Kf _ hy)
      simp only[Ks,Gd,K2];omega
   cases p with
   | ex e=>rw[Jf,Gf];exact Zfd e
   | pr t=>
     rw[Zoe,JL];have h1:=hfl t.qK .cl (bnd t B) fun x hx=>QA hx
     have h2:=hfl t.qQ .pr (bnd t B) fun x hx=>Qa hx
     have h3:(t.args.flatMap Qj).length<=((t.args.map Part.ex).flatMap pre).length:=by
      generalize t.args=l
      induction l with
      | nil=>simp
      | cons x l ihl=>have:=Zfd x;simp only[Ks,Gd,K2];omega
     show _<=((t.args.map Part.ex++t.qK.map Part.cl++t.qQ.map Part.pr).flatMap pre).length+1;rw[Gy,Gy];have h4:(if t.qJ=E0 then([]:U Evt) else [(t.qJ,B)]).length<=1:=by split<;>simp
     simp only[K2,Gf];omega
   | cl c=>
     rw[Zkv,JL];have h1:=hfl c.qK .cl B fun x hx=>Xn hx
     have h2:=hfl c.qQ .pr (B++Zv c.qG) fun x hx=>Xe hx
     show _<=((c.qK.map Part.cl++c.qQ.map Part.pr).flatMap pre).length+1;rw[Gy];simp only[K2];omega
def ZpU:∀(js:U YJ)(ht hn:Y->Z),jW ht hn js=true->∀m∈js,m.names.length<=3
 | [],_,_,_,m,h=>by cases h
 | j::js,ht,hn,hw,m,h=>by
   unfold jW at hw;simp only[Ba0,decide_eq_true_eq]at hw;rcases Kd.1 h with rfl|h
   ·exact hw.1.2
   ·exact ZpU js _ _ hw.2.2 m h
def Ud{c:Za}(h:Zak c=true):c.qG.length<=3/\(∀m∈c.qG,m.names.length<=3)/\∃k,c.qQ=[k]:=by
 have ok:=Zbl h;unfold Zak at h;rw[Ba0,beq_iff_eq]at h;refine⟨ok.1,?_,?_⟩
 ·rcases ok.2 with h1|⟨_,h2⟩
  ·have:(c.qV==2)=false:=by rw[h1];rfl
   rw[this]at h;simp only[Cq0,Ba0]at h;exact ZpU _ _ _ h.2.2
  ·rw[h2];intro m hm;cases hm
 ·match hk:c.qQ,h.1 with
  | [k],_=>exact⟨k,rfl⟩
def Uh(x:Y):Ze:=⟨2,0,x,[]⟩
def note(fr:MB)(B:U Y)(x:Y):MB:=if x∈B then fr else Yk fr x true
def bindM(l:U Y)(m:NM):NM:=l.foldl (fun m x=>Yk m x (Uh x)) m
def Zhb:∀(l:U Y)(m:NM)(x:Y),Zq (bindM l m) x=if x∈l then some (Uh x) else Zq m x
 | [],m,x=>by simp[bindM]
 | y::l,m,x=>by
   show Zq (bindM l (Yk m y (Uh y))) x=_;rw[Zhb l,Wi];by_cases h1:x∈l
   ·simp[h1]
   ·by_cases h2:x=y
    ·subst h2;simp[h1]
    ·simp[h1,h2]
def bind_eq{F:Nat}(hF:10000000000000000000<=F)(l:U Y)(hl:l.length<=100000):Zkl F l=some (bindM l []):=by
 unfold Zkl;refine Yt (body:=Zad l l) (fun(k:Nat)(m:NM)=>((k:Int),m)) l (fun _ _=>True) (fun rest m=>some (bindM rest m)) (F:=F) ?_ ?_ Vg [] trivial
 ·intro m nx _;simp only[Zad,Z6,Cq0];rfl
 ·intro k x rest m nx hx hk hg _ ih;simp only[Zad,ZR hk,Cq1,hg,Bq0,ZqJ];rw[Jj Vg];exact ih _ trivial
def notes(B:U Y)(l:U Y)(fr:MB):MB:=l.foldl (fun fr x=>note fr B x) fr
def Zfc(B a b:U Y)(fr:MB):notes B (a++b) fr=notes B b (notes B a fr):=List.foldl_append
def Zuu:∀(l:U Y)(s:CH),(∀x,has s.2 x=decide (x∈s.1))->∀x,x∈(l.foldl dj s).1↔x∈s.1\/x∈l
 | [],s,_,x=>by simp
 | y::l,s,h,x=>by
   rw[Gq]
   have hs:∀z,has (dj s y).2 z=decide (z∈(dj s y).1):=fun z=>by
    unfold dj;cases hz:has s.2 y
    ·simp only[Cq0];rw[Za3];show(has s.2 z||decide (z=y))=decide (z∈s.1++[y]);rw[h z];by_cases h1:z∈s.1<;>by_cases h2:z=y<;>simp[h1,h2]
    ·exact h z
   rw[Zuu l _ hs x];have hy:has s.2 y=decide (y∈s.1):=h y
   have e:x∈(dj s y).1↔x∈s.1\/x=y:=by
    unfold dj;by_cases hm:y∈s.1
    ·rw[hy,decide_eq_true hm];exact⟨.inl,fun z=>z.elim id fun e=>e▸hm⟩
    ·rw[hy,decide_eq_false hm];simp
   rw[e];simp only[Kd]
   constructor
   ·rintro((h1|h1) | h1)<;>simp[h1]
   ·rintro(h1|h1|h1)<;>simp[h1]
def ZxX{l:U Za}{sp:Spt}(h:sp∈(E0,l)::l.flatMap X9){c:Za}(hc:c∈sp.2){m:YJ}(hm:m∈c.qG):m.qJ∈(ZdR l).1:=by
 unfold ZdR;rw[Zuu _ ([],[]) (fun x=>rfl)];exact .inr (Q3.2 ⟨sp,h,G5.2 ⟨m,Q3.2 ⟨c,hc,hm⟩,rfl⟩⟩)
def Zv9{l:U Za}{sp:Spt}(h:sp∈l.flatMap X9):sp.1∈(ZdR l).2:=Gl (f:=(·.1)) h
def ext(env:NM)(l to:U Y):NM:=((l.zip to).map fun p=>(p.1,Uh p.2)).reverse++env
def JX(env:NM)(x:Y):Y:=match Zq env x with
 | some e=>e.qJ
 | none=>x
def tx0(env:NM)(x:Y):Y:=if x=E0 then E0 else JX env x
mutual
def exW (env:NM):Ze->Ze
 | .mk op n tx ks=>bif op==2 then(Zq env tx).getD (.mk op n tx ks) else .mk op n tx (ZEw env ks)
def ZEw (env:NM):U Ze->U Ze
 | []=>[]
 | k::l=>exW env k::ZEw env l
end
def ZAX(env:NM)(l:U Ze):ZEw env l=l.map (exW env):=by
 induction l with
 | nil=>rfl
 | cons k l ih=>rw[ZEw,ih];rfl
def Zoc(env:NM)(e:Ze):exW env e=bif e.op==2 then(Zq env e.qJ).getD e else .mk e.op e.n e.qJ (e.qQ.map (exW env)):=by
 cases e;rw[exW,ZAX]
abbrev BF(σ:Type):=σ->NM->U Y->Part->σ×U Y
def Q0(l:U Za):U Y:=(ZdR l).1++(ZdR l).2
def ZgC(env en:NM)(m:YJ):YJ:=⟨JX env m.qJ,m.names.map (JX en)⟩
section
variable{σ:Type}
mutual
def Wt (bd:BF σ) (s:σ) (env:NM):Term->σ×Term
 | .mk op tx ar ds ks=>bif op==4 then
     ((Wts bd (Wcs bd (bd s env (Q0 ds) (.pr (.mk op tx ar ds ks))).1 (ext env (Q0 ds) (bd s env (Q0 ds) (.pr (.mk op tx ar ds ks))).2) ds).1 (ext env (Q0 ds) (bd s env (Q0 ds) (.pr (.mk op tx ar ds ks))).2) ks).1,
      .mk op (tx0 env tx) (ar.map (exW env)) (Wcs bd (bd s env (Q0 ds) (.pr (.mk op tx ar ds ks))).1 (ext env (Q0 ds) (bd s env (Q0 ds) (.pr (.mk op tx ar ds ks))).2) ds).2
       (Wts bd (Wcs bd (bd s env (Q0 ds) (.pr (.mk op tx ar ds ks))).1 (ext env (Q0 ds) (bd s env (Q0 ds) (.pr (.mk op tx ar ds ks))).2) ds).1 (ext env (Q0 ds) (bd s env (Q0 ds) (.pr (.mk op tx ar ds ks))).2) ks).2)
   else((Wts bd s env ks).1,.mk op (tx0 env tx) (ar.map (exW env)) [] (Wts bd s env ks).2)
def Wts (bd:BF σ) (s:σ) (env:NM):U Term->σ×U Term
 | []=>(s,[])
 | t::l=>((Wts bd (Wt bd s env t).1 env l).1,(Wt bd s env t).2::(Wts bd (Wt bd s env t).1 env l).2)
def Wc (bd:BF σ) (s:σ) (env:NM):Za->σ×Za
 | .mk f tx js ds ks=>bif f==2 then
     ((Wts bd (Wcs bd s env ds).1 env ks).1,.mk f (JX env tx) [] (Wcs bd s env ds).2 (Wts bd (Wcs bd s env ds).1 env ks).2)
   else
    ((Wts bd (bd s env (Zv js) (.cl (.mk f tx js ds ks))).1 (ext env (Zv js) (bd s env (Zv js) (.cl (.mk f tx js ds ks))).2) ks).1,
     .mk f E0 (js.map (ZgC env (ext env (Zv js) (bd s env (Zv js) (.cl (.mk f tx js ds ks))).2))) []
      (Wts bd (bd s env (Zv js) (.cl (.mk f tx js ds ks))).1 (ext env (Zv js) (bd s env (Zv js) (.cl (.mk f tx js ds ks))).2) ks).2)
def Wcs (bd:BF σ) (s:σ) (env:NM):U Za->σ×U Za
 | []=>(s,[])
 | c::l=>((Wcs bd (Wc bd s env c).1 env l).1,(Wc bd s env c).2::(Wcs bd (Wc bd s env c).1 env l).2)
end
def inT(bd:BF σ)(s:σ)(env:NM)(t:Term):σ×NM:=bif t.op==4 then((bd s env (Q0 t.qK) (.pr t)).1,ext env (Q0 t.qK) (bd s env (Q0 t.qK) (.pr t)).2) else(s,env)
def inC(bd:BF σ)(s:σ)(env:NM)(c:Za):σ×NM:=bif c.qV==2 then(s,env) else((bd s env (Zv c.qG) (.cl c)).1,ext env (Zv c.qG) (bd s env (Zv c.qG) (.cl c)).2)
theorem ZtH{bd:BF σ}{s:σ}{env:NM}{t:Term}(h:t.op=4):Wt bd s env t=((Wts bd (Wcs bd (inT bd s env t).1 (inT bd s env t).2 t.qK).1 (inT bd s env t).2 t.qQ).1,.mk t.op (tx0 env t.qJ) (t.args.map (exW env)) (Wcs bd (inT bd s env t).1 (inT bd s env t).2 t.qK).2 (Wts bd (Wcs bd (inT bd s env t).1 (inT bd s env t).2 t.qK).1 (inT bd s env t).2 t.qQ).2):=by
 cases t;simp only at h;subst h;rw[Wt];rfl
theorem ZoP{bd:BF σ}{s:σ}{env:NM}{t:Term}(h:t.op≠4):Wt bd s env t=((Wts bd s env t.qQ).1,.mk t.op (tx0 env t.qJ) (t.args.map (exW env)) [] (Wts bd s env t.qQ).2):=by
 cases t with|mk op tx ar ds ks=>
 simp only at h;have:(op==4)=false:=by simpa using h
 rw[Wt,this];rfl
theorem ZkV{bd:BF σ}{s:σ}{env:NM}{c:Za}(h:c.qV=2):Wc bd s env c=((Wts bd (Wcs bd s env c.qK).1 env c.qQ).1,.mk c.qV (JX env c.qJ) [] (Wcs bd s env c.qK).2 (Wts bd (Wcs bd s env c.qK).1 env c.qQ).2):=by
 cases c;simp only at h;subst h;rw[Wc];rfl
theorem ZoQ{bd:BF σ}{s:σ}{env:NM}{c:Za}(h:c.qV≠2):Wc bd s env c=((Wts bd (inC bd s env c).1 (inC bd s env c).2 c.qQ).1,.mk c.qV E0 (c.qG.map (ZgC env (inC bd s env c).2)) [] (Wts bd (inC bd s env c).1 (inC bd s env c).2 c.qQ).2):=by
 cases c with|mk f tx js ds ks=>
 simp only at h;have:(f==2)=false:=by simpa using h
 unfold inC;rw[Wc,this];simp only[this,Cq0]
theorem Zgg(bd:BF σ)(s:σ)(env:NM):Wts bd s env []=(s,[]):=by rw[Wts]
theorem ZcW(bd:BF σ)(s:σ)(env:NM)(t:Term)(l:U Term):Wts bd s env (t::l)=((Wts bd (Wt bd s env t).1 env l).1,(Wt bd s env t).2::(Wts bd (Wt bd s env t).1 env l).2):=by rw[Wts]
theorem ZiD(bd:BF σ)(s:σ)(env:NM):Wcs bd s env []=(s,[]):=by rw[Wcs]
theorem ZkU(bd:BF σ)(s:σ)(env:NM)(c:Za)(l:U Za):Wcs bd s env (c::l)=((Wcs bd (Wc bd s env c).1 env l).1,(Wc bd s env c).2::(Wcs bd (Wc bd s env c).1 env l).2):=by rw[Wcs]
end
def Zh3:U NM->Y->O Ze
 | [],_=>none
 | m::c,x=>match Zq m x with
   | some v=>some v
   | none=>Zh3 c x
def find_eq(x:Y):∀(c:U NM)(F:Nat),c.length<F->ZhN F c x=some (match Zh3 c x with|some v=>(v,true) | none=>(⟨0,0,E0,[]⟩,false)):=by
 intro c
 induction c with
 | nil=>
   intro F hF;obtain⟨G,rfl⟩:∃G,F=G+1:=⟨F-1,by omega⟩
   unfold ZhN;rw[Ya];simp[Zko,Zh3]
 | cons m c ih=>
   intro F hF;obtain⟨G,rfl⟩:∃G,F=G+1:=⟨F-1,by omega⟩
   unfold ZhN;rw[Ya];show(bif(Zq m x).isSome then some ((Zq m x).getD ⟨0,0,⟨#[]⟩,[]⟩,true) else loop G (Zko x) c)=_;unfold Zh3;cases hg:Zq m x with
   | some v=>rfl
   | none=>
     have:=ih G (by simp only[KK]at hF;omega);unfold ZhN at this;simp only[Option.isSome_none,Cq0];rw[this]
def QL(bad:Y->Z)(l:U Y):Y->Z:=fun x=>bad x && !decide (x∈l)
mutual
def bT (bad:Y->Z):Term->Z
 | .mk op tx ar ds ks=>(!decide (tx=E0)&&bad tx)||bif op==4 then bCs (QL bad (Q0 ds)) ds||bTs (QL bad (Q0 ds)) ks else bTs bad ks
def bTs (bad:Y->Z):U Term->Z
 | []=>false
 | t::l=>bT bad t||bTs bad l
def bC (bad:Y->Z):Za->Z
 | .mk f tx js ds ks=>bif f==2 then bCs bad ds||bTs bad ks else bTs (QL bad (Zv js)) ks
def bCs (bad:Y->Z):U Za->Z
 | []=>false
 | c::l=>bC bad c||bCs bad l
end
def Zvq(bad:Y->Z)(t:Term):bT bad t=((!decide (t.qJ=E0)&&bad t.qJ)||bif t.op==4 then bCs (QL bad (Q0 t.qK)) t.qK||bTs (QL bad (Q0 t.qK)) t.qQ else bTs bad t.qQ):=by cases t;rw[bT]
def Zrm(bad:Y->Z)(c:Za):bC bad c=bif c.qV==2 then bCs bad c.qK||bTs bad c.qQ else bTs (QL bad (Zv c.qG)) c.qQ:=by cases c;rw[bC]
def ZcE(bad:Y->Z)(t:Term)(l:U Term):bTs bad (t::l)=(bT bad t||bTs bad l):=by rw[bTs]
def Ziz(bad:Y->Z):bTs bad []=false:=by rw[bTs]
def ZkI(bad:Y->Z)(t:Za)(l:U Za):bCs bad (t::l)=(bC bad t||bCs bad l):=by rw[bCs]
def Zoy(bad:Y->Z):bCs bad []=false:=by rw[bCs]
structure CE(R:List NM->NM->Prop)(c:List NM)(env:NM)(B Bn:List ByteArray)(bad:ByteArray->Bool):Prop where
 get:∀x,Zh3 c x=Zq env x
 sz:∀x e,Zq env x=some e->(pre (.ex e)).length<=60
 b:∀x,x∈B↔(Zq env x).isSome=true
 bd:∀x,bad x=true↔∃e,Zq env x=some e/\e.op≠2
 nb:∀x,x∈Bn->x∈B/\bad x=false
 r:R c env
variable{R:U NM->NM->Prop}
def Zpc{F:Nat}{B Bn:U Y}{bad:Y->Z}{env:NM}(x:Y)(fr:MB)(c:U NM)(hF:c.length<F)(h:CE R c env B Bn bad):Zmt F fr c x=some (bif bad x then .ZX 7 else .ok (note fr B x,JX env x)):=by
 unfold Zmt note JX;rw[find_eq x c F hF,Bq0,h.get x];have hb:=h.b x;have hd:=h.bd x;cases hg:Zq env x with
 | none=>
   rw[hg]at hb hd
   have hbad:bad x=false:=by
    cases e:bad x
    ·rfl
    ·obtain⟨_,z,_⟩:=hd.1 e;cases z
   rw[if_neg (by simpa using hb),hbad];rfl
 | some e=>
   rw[hg]at hb hd;rw[if_pos (hb.2 rfl)];by_cases h2:e.op=2
   ·have hbad:bad x=false:=by
     cases e':bad x
     ·rfl
     ·obtain⟨_,z,z2⟩:=hd.1 e';cases z;exact absurd h2 z2
    rw[hbad];simp[h2]
   ·have hbad:bad x=true:=hd.2 ⟨e,rfl,h2⟩;have:(e.op !=2)=true:=by simpa using h2
    rw[hbad];show(bif(e.op !=2) then some (PR.ZX 7) else some (PR.ok (fr,e.qJ)))=_;rw[this];rfl
def ZiS{F:Nat}{B Bn:U Y}{bad:Y->Z}{env:NM}(x:Y)(fr:MB)(c:U NM)(hF:c.length<F)(h:CE R c env B Bn bad)(hx:x∈Bn):Zkn F fr c x=some (fr,JX env x):=by
 obtain⟨h1,h2⟩:=h.nb x hx;unfold Zkn;rw[Zpc x fr c hF h,h2];show some (id (note fr B x,JX env x))=_;unfold note;rw[if_pos h1];rfl
def Zop{F:Nat}(hF:10000000000000000000<=F):∀n e,(pre (.ex e)).length<=n->n<=60->∀Fr,n<=Fr->loop Fr (ZeD F) e=some e:=by
 intro n
 induction n with
 | zero=>intro e hn;have:=Xk (.ex e);omega
 | succ n ih=>
   intro e hn h60 Fr hFr;obtain⟨G,rfl⟩:∃G,Fr=G+1:=⟨Fr-1,by omega⟩
   rw[Ya];have hih:∀x∈e.qQ,loop G (ZeD F) x=some x:=fun x hx=>ih x (by have:=YI (Qz hx);omega) Vg G Vg
   have hkl:e.qQ.length<(pre (.ex e)).length:=by have:=Za0 (.ex e);simpa[ZJ]using this
   generalize loop G (ZeD F)=n1 at hih;unfold ZeD;have:=Yt (body:=ZfI e n1) (fun(k:Nat)(acc:U Ze)=>((k:Int),acc)) e.qQ (fun rest acc=>acc.length+rest.length<=1000) (fun rest acc=>some (Ze.mk e.op e.n e.qJ (acc++rest))) (F:=F) ?_ ?_ Vg [] (by simp;omega)
   ·refine this.trans ?_;rw[Ge];cases e;rfl
   ·intro acc nx _;simp only[ZfI,Z6,Cq0,Gn]
   ·intro k x rest acc nx hx hk hg hp ihl;simp only[KK]at hp;have a1:app 56 acc [x]=some (acc++[x]):=Ws (by simp;omega) Vg;simp only[ZfI,ZR hk,Cq1,hg,Bq0,hih x hx,a1];rw[Jj Vg,ihl _ (by simp;omega),Gc];rfl
def ZGm{F:Nat}(hF:10000000000000000000<=F){B Bn:U Y}{bad:Y->Z}{env:NM}{c:U NM}(hc:CE R c env B Bn bad)(hcl:c.length<F):∀n e (fr:MB),(pre (.ex e)).all Uo=true->(pre (.ex e)).length<=n->n<=60->∀Fr,n<=Fr->loop Fr (ZeE F c) (fr,e)=some (notes B (Qj e) fr,exW env e):=by
 intro n
 induction n with
 | zero=>intro e fr _ hn;have:=Xk (.ex e);omega
 | succ n ih=>
   intro e fr hs hn h60 Fr hFr;obtain⟨G,rfl⟩:∃G,Fr=G+1:=⟨Fr-1,by omega⟩
   rw[Ya];have hih:∀x∈e.qQ,∀fr:MB,loop G (ZeE F c) (fr,x)=some (notes B (Qj x) fr,exW env x):=fun x hx fr=>ih x fr (by rw[Kx]at hs ⊢;exact fun y hy=>hs y (YL (Qz hx) hy)) (by have:=YI (Qz hx);omega) Vg G Vg
   have hkl:e.qQ.length<(pre (.ex e)).length:=by have:=Za0 (.ex e);simpa[ZJ]using this
   have hsh:KW e=true:=Kx.1 hs _ (Y4 _);generalize loop G (ZeE F c)=n1 at hih;rw[Zjj,Zoc];unfold ZeE;dsimp only;cases h2:e.op==2
   ·simp only[Cq0,Ge]
    have ht:e.qJ=E0:=by
     unfold KW at hsh;rw[h2]at hsh;cases h1:e.op==1<;>rw[h1]at hsh<;>simp only[Cq1,Cq0,Ba0,decide_eq_true_eq]at hsh
     ·exact hsh.1.1.2
     ·exact hsh.1.2
    have:=Yt (body:=Zkq e n1) (fun(k:Nat)(s:MB×U Ze)=>((k:Int),s.1,s.2)) e.qQ (fun rest s=>s.2.length+rest.length<=1000) (fun rest s=>some (notes B (rest.flatMap Qj) s.1,Ze.mk e.op e.n E0 (s.2++rest.map (exW env)))) (F:=F) ?_ ?_ Vg (fr,[]) (by simp;omega)
    ·refine this.trans ?_;rw[ht];rfl
    ·intro s nx _;simp only[Zkq,Z6,Cq0,List.map_nil,Gn];rfl
    ·intro k x rest s nx hx hk hg hp ihl;simp only[KK]at hp;simp only[Zkq,ZR hk,Cq1,hg,Bq0,hih x hx];have a1:app 56 s.2 [exW env x]=some (s.2++[exW env x]):=Ws (by simp;omega) Vg;rw[a1,Bq0,Jj Vg];refine(ihl (notes B (Qj x) s.1,s.2++[exW env x]) (by simp;omega)).trans ?_;rw[Ks,Zfc,Gc];rfl
   ·have hk:e.qQ=[]:=by
     have h2':e.op=2:=by simpa using h2
     unfold KW at hsh;rw[h2']at hsh;simp only[Int.reduceBEq,Cq1,Cq0,Ba0,beq_iff_eq]at hsh;exact G7 hsh.2
    rw[hk];simp only[Cq1,List.flatMap_nil,Gn];rw[find_eq e.qJ c F hcl,Bq0,hc.get];have hb:=hc.b e.qJ;cases hg:Zq env e.qJ with
    | none=>
      rw[hg]at hb;show some (Yk fr e.qJ true,e)=some (note fr B e.qJ,e);unfold note;rw[if_neg (by simpa using hb)]
    | some y=>
      rw[hg]at hb;have hy:=Zop hF 60 y (hc.sz _ _ hg) Vh F Vg;show((Zu5 F y).bind fun z=>some (fr,z))=some (note fr B e.qJ,y);unfold note Zu5;rw[if_pos (hb.2 rfl),hy];rfl
end
section
structure BE(F:Nat)(I:Nat->MB->Prop)(R:List NM->NM->Prop)(Z9:UZ)(WW:Za->List ByteArray->Option MB)(frL:Term->Option MB)(bd:BF MB):Prop where
 mono:∀k j tk,I (k+j) tk->I k tk
 t:∀tk c env B Bn bad t k,CE R c env B Bn bad->c.length+2*(pre (.pr t)).length<F->B.length+12000*(pre (.pr t)).length<=750000->(pre (.pr t)).all Uo=true->(pre (.pr t)).length<=60->t.op=4->(Q0 t.qK).length<=11040->I (k+(Q0 t.qK).length) tk ->
  ∃m,Z9 tk c (Q0 t.qK) (frL t)=some ((bd tk env (Q0 t.qK) (.pr t)).1,m)/\CE R (m::c) (ext env (Q0 t.qK) (bd tk env (Q0 t.qK) (.pr t)).2) (B++Q0 t.qK) (Bn++Q0 t.qK) (QL bad (Q0 t.qK))/\I k (bd tk env (Q0 t.qK) (.pr t)).1
 r:∀tk c env B Bn bad p k,CE R c env B Bn bad->c.length+2*(pre (.cl p)).length<F->B.length+12000*(pre (.cl p)).length<=750000->(pre (.cl p)).all Uo=true->(pre (.cl p)).length<=60->p.qV=1->(Zv p.qG).length<=9->I (k+(Zv p.qG).length) tk ->
  ∃m,Z9 tk c (Zv p.qG) (WW p (Zv p.qG))=some ((bd tk env (Zv p.qG) (.cl p)).1,m)/\CE R (m::c) (ext env (Zv p.qG) (bd tk env (Zv p.qG) (.cl p)).2) (B++Zv p.qG) (Bn++Zv p.qG) (QL bad (Zv p.qG))/\I k (bd tk env (Zv p.qG) (.cl p)).1
def YM(l:U Evt)(fr:MB):MB:=l.foldl (fun fr e=>note fr e.2 e.1) fr
def J5(a b:U Evt)(fr:MB):YM (a++b) fr=YM b (YM a fr):=List.foldl_append
def Zsp(B:U Y)(l:U Y)(fr:MB):YM (l.map fun s=>(s,B)) fr=notes B l fr:=by
 unfold YM notes;rw[List.foldl_map]
def TXg(F:Nat)(I:Nat->MB->Prop)(R:U NM->NM->Prop)(bd:BF MB)(nx:WS×U NM×Term->O (PR (WS×Term)))(t:Term):Prop:=∀fr tk c env B Bn bad k,CE R c env B Bn bad->c.length+2*(pre (.pr t)).length<F->B.length+12000*(pre (.pr t)).length<=750000->I (k+12000*(pre (.pr t)).length) tk ->
 nx ((fr,tk),c,t)=some (bif bT bad t then .ZX 7 else .ok ((YM (Jf (.pr t) B) fr,(Wt bd tk env t).1),(Wt bd tk env t).2))/\(bT bad t=false->I k (Wt bd tk env t).1)
def ZjE{c:Za}(hs:Zak c=true):(Zv c.qG).length<=9:=by
 obtain⟨h3,hn3,k,hk⟩:=Ud hs
 have:∀js:U YJ,(∀m∈js,m.names.length<=3)->(Zv js).length<=3*js.length:=by
  intro js
  induction js with
  | nil=>intro _;simp[Zv]
  | cons m js ihj=>
    intro h;have a:=h m (by simp);have b:=ihj fun x hx=>h x (Kf _ hx)
    unfold Zv at b ⊢;rw[Ks,K2,KK];omega
 have:=this c.qG hn3;omega
def Zgx{c:Za}(hs:Zak c=true)(hf:c.qV=1):c.qJ=E0/\c.qK=[]:=by
 unfold Zak at hs;rw[hf]at hs;simp only[Int.reduceBEq,Cq0,Ba0,decide_eq_true_eq,beq_iff_eq]at hs;exact⟨hs.2.1.1.1.1.2,G7 hs.2.1.1.1.2⟩
def ZHk{R:U NM->NM->Prop}{F:Nat}(hF:10000000000000000000<=F){I:Nat->MB->Prop}{Z9:UZ}{rl:Za->U Y->O MB}{fl:Term->O MB}{bd:BF MB}(hE:BE F I R Z9 rl fl bd){B Bn:U Y}{bad:Y->Z}{c:U NM}{env:NM}(hc:CE R c env B Bn bad)(nx:WS×U NM×Term->O (PR (WS×Term)))(p0:Za)(hs:(pre (.cl p0)).all Uo=true)(h60:(pre (.cl p0)).length<=60)(hf:p0.qV=1)(hcl:c.length+2*(pre (.cl p0)).length<F)(hB:B.length+12000*(pre (.cl p0)).length<=750000)(hj:∀m∈p0.qG,m.qJ∈Bn)(hnx:∀k∈p0.qQ,TXg F I R bd nx k)(fr tk:MB)(kk:Nat)(hI:I (kk+12000*(pre (.cl p0)).length) tk):
 Zms F Z9 rl nx (fr,tk) c p0=some (bif bC bad p0 then .ZX 7 else .ok ((YM (Jf (.cl p0) B) fr,(Wc bd tk env p0).1),(Wc bd tk env p0).2))/\(bC bad p0=false->I kk (Wc bd tk env p0).1):=by
 have hsC:Zak p0=true:=Kx.1 hs _ (Y4 _);obtain⟨h3,hn3,k,hk⟩:=Ud hsC;have hd:=Zgx hsC hf;have hkl:=YI (Xe (c:=p0) (x:=k) (by rw[hk];simp));have hjl:=ZjE hsC;obtain⟨mb,hb,hci,hIb⟩:=hE.r tk c env B Bn bad p0 (kk+12000*(pre (.pr k)).length) hc hcl hB hs h60 hf hjl (hE.mono _ (12000*(pre (.cl p0)).length-12000*(pre (.pr k)).length-(Zv p0.qG).length) _ (by refine(congrArg (fun z=>I z tk) ?_).mp hI;omega));have he:Jf (.cl p0) B=Jf (.pr k) (B++Zv p0.qG):=by rw[Zkv,hd.2,hk];simp
 have hne:p0.qV≠2:=Vg
 have hbc:bC bad p0=bT (QL bad (Zv p0.qG)) k:=by
  rw[Zrm,hf,hk];show bTs _ [k]=_;rw[ZcE,Ziz,Bool.or_false]
 have hin:inC bd tk env p0=((bd tk env (Zv p0.qG) (.cl p0)).1,ext env (Zv p0.qG) (bd tk env (Zv p0.qG) (.cl p0)).2):=by
  unfold inC;rw[hf];rfl
 rw[ZoQ hne,hin,hk,ZcW,Zgg,he,hbc];dsimp only;generalize bd tk env (Zv p0.qG) (.cl p0)=bv at hb hci hIb;obtain⟨tk1,to⟩:=bv;dsimp only at hb hci hIb ⊢;generalize hen:ext env (Zv p0.qG) to=en at hci ⊢;have hkx:=fun fr=>hnx k (by rw[hk];simp) fr tk1 _ _ _ _ _ kk hci (by simp only[KK];omega) (by rw[K2];omega) hIb
 refine⟨?_,(hkx fr).2⟩
 have hb2:∀(i:Int) next js (m:YJ) fr,m∈p0.qG->js.length<=10->loop F (Zdo F (mb::c) i next js m (JX env m.qJ)) (0,fr,[])=next (XO (i+1),fr,js++[ZgC env en m]):=fun i next js m fr hm hjs=>by
  have hmn:=hn3 m hm;have:=Yt (body:=Zdo F (mb::c) i next js m (JX env m.qJ)) (fun(q:Nat)(ns:U Y)=>((q:Int),fr,ns)) m.names (fun rest ns=>ns.length+rest.length<=10) (fun rest ns=>next (XO (i+1),fr,js++[YJ.mk (JX env m.qJ) (ns++rest.map (JX en))])) (F:=F) ?_ ?_ Vg [] (by simp;omega)
  ·refine this.trans ?_;rw[Ge];rfl
  ·intro ns nx' hp;have a1:app 40 js [YJ.mk (JX env m.qJ) ns]=some (js++[YJ.mk (JX env m.qJ) ns]):=Ws (by simp;omega) Vg;simp only[Zdo,Z6,Cq0,a1,Bq0,List.map_nil,Gn]
  ·intro q x rest ns nx' hx hq hg hp ih;simp only[KK]at hp;have hxb:x∈Bn++Zv p0.qG:=Gg _ (Q3.2 ⟨m,hm,hx⟩);have ht:=ZiS (F:=F) x fr (mb::c) (by simp only[KK];omega) hci hxb;have a1:app 16 ns [JX en x]=some (ns++[JX en x]):=Ws (by simp;omega) Vg;simp only[Zdo,ZR hq,Cq1,hg,Bq0,ht,a1];rw[Jj Vg,ih _ (by simp;omega),Gc];rfl
 have hb1:∀fr:MB,loop F (Zdp F nx c (mb::c) tk1 p0) (0,fr,[])=some (bif bT (QL bad (Zv p0.qG)) k then .ZX 7 else .ok ((YM (Jf (.pr k) (B++Zv p0.qG)) fr,(Wt bd tk1 en k).1),Za.mk p0.qV E0 (p0.qG.map (ZgC env en)) [] [(Wt bd tk1 en k).2])):=fun fr=>by
  refine Yt (body:=Zdp F nx c (mb::c) tk1 p0) (fun(q:Nat)(js:U YJ)=>((q:Int),fr,js)) p0.qG (fun rest js=>js.length+rest.length<=10) (fun rest js=>some (bif bT (QL bad (Zv p0.qG)) k then .ZX 7 else .ok ((YM (Jf (.pr k) (B++Zv p0.qG)) fr,(Wt bd tk1 en k).1),Za.mk p0.qV E0 (js++rest.map (ZgC env en)) [] [(Wt bd tk1 en k).2]))) (F:=F) ?_ ?_ Vg [] (by simp;omega)
  ·intro js nx' hp;have g0:YA p0.qQ 0=some k:=by rw[hk];rfl
   simp only[Zdp,Z6,Cq0,g0,Bq0];rw[(hkx fr).1,Bq0,List.map_nil,Gn];cases bT (QL bad (Zv p0.qG)) k<;>rfl
  ·intro q m rest js nx' hm hq hg hp ih;have ht:=ZiS (F:=F) m.qJ fr c Vg hc (hj m hm);simp only[KK]at hp;simp only[Zdp,ZR hq,Cq1,hg,Bq0,ht];rw[hb2 _ _ js m fr hm Vg,Jj Vg,ih _ (by simp;omega),Gc];rfl
 unfold Zms;have:=Yt (body:=ZfG F Z9 rl nx (fr,tk) c p0) (fun(q:Nat)(ns:U Y)=>((q:Int),ns)) p0.qG (fun rest ns=>ns++Zv rest=Zv p0.qG/\ns.length<=9) (fun _ _=>some (bif bT (QL bad (Zv p0.qG)) k then .ZX 7 else .ok ((YM (Jf (.pr k) (B++Zv p0.qG)) fr,(Wt bd tk1 en k).1),Za.mk p0.qV E0 (p0.qG.map (ZgC env en)) [] [(Wt bd tk1 en k).2]))) (F:=F) ?_ ?_ Vg [] ⟨rfl,Gv _⟩
 ·exact this
 ·intro ns nx' hp;have hns:ns=Zv p0.qG:=by have:=hp.1;simpa[Zv]using this
  subst hns;simp only[ZfG,Z6,Cq0];rw[hb,Bq0];exact hb1 fr
 ·intro q m rest ns nx' hm hq hg hp ih;have hmn:=hn3 m hm;have a1:app 16 ns m.names=some (ns++m.names):=Ws Vg Vg;simp only[ZfG,ZR hq,Cq1,hg,Bq0,a1];rw[Jj Vg];refine ih _ ⟨?_,?_⟩
  ·have:=hp.1;unfold Zv at this ⊢;rw[Ks]at this;rw[Gc];exact this
  ·have:=congrArg List.length hp.1;unfold Zv at this;rw[Ks,K2,K2]at this;unfold Zv at hjl;rw[K2];omega
def Zc9{α β:Type}(y:α)(p:Int->O β)(k:α->O β):Jp (.ok y) p k=k y:=rfl
def Zjw{α σ β γ:Type}{body:γ->(γ->O β)->O β}(st:Nat->σ->γ)(l:U α)(Pre:U α->σ->Prop)(Q:U α->σ->O β->Prop)
 (h0:∀s nx,Pre [] s->Q [] s (body (st l.length s) nx))
 (h1:∀(k:Nat) x rest s nx,x∈l->k<l.length->YA l (k:Int)=some x->Pre (x::rest) s->(∀s',Pre rest s'->Q rest s' (nx (st (k+1) s')))->Q (x::rest) s (body (st k s) nx)) {F:Nat} (hF:l.length<F) (s:σ) (hp:Pre l s):Q l s (loop F body (st 0 s)):=by
 have key:∀(d j F:Nat)(s:σ),j+d=l.length->d<F->Pre (l.drop j) s->Q (l.drop j) s (loop F body (st j s)):=by
  intro d
  induction d with
  | zero=>
    intro j F s hj hF hp;obtain⟨F,rfl⟩:∃G,F=G+1:=⟨F-1,by omega⟩
    obtain rfl:j=l.length:=Vg
    rw[List.drop_length]at hp ⊢;rw[Ya];exact h0 _ _ hp
  | succ d ih=>
    intro j F s hj hF hp;obtain⟨F,rfl⟩:∃G,F=G+1:=⟨F-1,by omega⟩
    have hjl:j<l.length:=Vg
    rw[List.drop_eq_getElem_cons hjl]at hp ⊢;rw[Ya];exact h1 j _ _ s _ (GK hjl) hjl (Jl hjl) hp fun s' hp'=>ih (j+1) F s' Vg Vg hp'
 have:=key l.length 0 F s Vg hF (by simpa using hp)
 simpa using this
def Zgt{t:Term}(h:ZdI t=true)(h4:t.op≠4):t.qK=[]:=by
 have e4:(t.op==4)=false:=by simpa using h4
 unfold ZdI szs at h;rw[e4,Ba0]at h;obtain⟨h,_⟩:=h
 have z:t.qK.length=0:=by
  cases a:(t.op==1)||(t.op==7)<;>rw[a]at h
  ·cases b:t.op==2<;>rw[b]at h
   ·cases c:t.op==3<;>rw[c]at h
    ·cases d:t.op==5<;>rw[d]at h<;>simp only[Cq1,Cq0,Ba0,beq_iff_eq]at h
     ·exact h.2.1.2
     ·exact h.1.2
    ·simp only[Cq1,Cq0,Ba0,beq_iff_eq]at h;exact h.1.2
   ·simp only[Cq1,Cq0,Ba0,beq_iff_eq]at h;exact h.2.1.2
  ·simp only[Cq1,Cq0,Ba0,beq_iff_eq]at h;exact h.1.2
 exact G7 z
structure TB(B:List ByteArray)(l:List Za):Prop where
 j:∀sp∈(E0,l)::l.flatMap X9,∀c∈sp.2,∀m∈c.qG,m.qJ∈B
 p:∀sp∈l.flatMap X9,sp.1∈B
def TB.sub{B:U Y}{l:U Za}(h:TB B l){c:Za}(hc:c∈l)(h2:c.qV=2):TB B c.qK:=by
 have e:X9 c=(c.qJ,c.qK)::c.qK.flatMap X9:=by rw[UH,h2];rfl
 have hin:∀sp,sp∈(c.qJ,c.qK)::c.qK.flatMap X9->sp∈l.flatMap X9:=fun sp hsp=>Q3.2 ⟨c,hc,by rw[e];exact hsp⟩
 constructor
 ·intro sp hsp d hd m hm;rcases Kd.1 hsp with rfl|hsp
  ·exact h.j (c.qJ,c.qK) (Kf _ (hin _ Gm)) d hd m hm
  ·exact h.j sp (Kf _ (hin _ (Kf _ hsp))) d hd m hm
 ·exact fun sp hsp=>h.p sp (hin _ (Kf _ hsp))
def TB.qJ{B:U Y}{l:U Za}(h:TB B l){c:Za}(hc:c∈l)(h2:c.qV=2):c.qJ∈B:=h.p (c.qJ,c.qK) (Q3.2 ⟨c,hc,by rw[UH,h2];exact Gm⟩)
def ZKk{l:U Za}(B:U Y):TB (B++Q0 l) l:=
 ⟨fun sp hsp c hc m hm=>Gg _ (Gu _ (ZxX hsp hc hm)),fun sp hsp=>Gg _ (Gg _ (Zv9 hsp))⟩
section
variable{R:U NM->NM->Prop}{F:Nat}{I:Nat->MB->Prop}{Z9:UZ}{rl:Za->U Y->O MB}{fl:Term->O MB}{bd:BF MB}
def ZrG(hE:BE F I R Z9 rl fl bd){a b:Nat}{tk:MB}(h:b<=a)(hI:I a tk):I b tk:=hE.mono b (a-b) tk (by rw[show b+(a-b)=a by omega];exact hI)
def ZwS(hF:10000000000000000000<=F)(hE:BE F I R Z9 rl fl bd){B Bn:U Y}{bad:Y->Z}{c:U NM}{env:NM}(hc:CE R c env B Bn bad)(nx:WS×U NM×Term->O (PR (WS×Term))):∀n (l:U Za),((l.map Part.cl).flatMap pre).length<=n->n<=60->(∀x∈(l.map Part.cl).flatMap pre,Uo x=true)->(∀t,Part.pr t∈(l.map Part.cl).flatMap pre->TXg F I R bd nx t)->TB Bn l ->
 ∀Fr,n<Fr->∀(fr tk:MB)(kk:Nat),c.length+2*((l.map Part.cl).flatMap pre).length<F->B.length+12000*((l.map Part.cl).flatMap pre).length<=750000->I (kk+12000*((l.map Part.cl).flatMap pre).length) tk ->
 loop Fr (Zcx F Z9 rl nx c) ((fr,tk),l)=some (bif bCs bad l then .ZX 7 else .ok ((YM (l.flatMap fun d=>Jf (.cl d) B) fr,(Wcs bd tk env l).1),(Wcs bd tk env l).2))/\(bCs bad l=false->I kk (Wcs bd tk env l).1):=by
 intro n
 induction n with
 | zero=>
   intro l hl _ _ _ _ Fr hFr fr tk kk _ _ hI
   have:l=[]:=by
    cases l with
    | nil=>rfl
    | cons x l=>simp only[Gd,Ks,K2]at hl;have:=Xk (.cl x);omega
   subst this;obtain⟨G,rfl⟩:∃G,Fr=G+1:=⟨Fr-1,by omega⟩
   rw[Ya];rw[ZiD,Zoy];refine⟨?_,fun _=>ZrG hE Vg hI⟩;unfold Zcx;dsimp only;cases F with
   | zero=>omega
   | succ F=>rw[Ya];rfl
 | succ n ih=>
   intro l hl h60 hs hnx htb Fr hFr fr tk kk hcl hB hI;obtain⟨G,rfl⟩:∃G,Fr=G+1:=⟨Fr-1,by omega⟩
   rw[Ya];have hlen:=ZhQ l
   have hih:∀x∈l,x.qV=2->∀(fr tk:MB)(kk:Nat),I (kk+12000*((x.qK.map Part.cl).flatMap pre).length) tk->loop G (Zcx F Z9 rl nx c) ((fr,tk),x.qK)=some (bif bCs bad x.qK then .ZX 7 else .ok ((YM (x.qK.flatMap fun d=>Jf (.cl d) B) fr,(Wcs bd tk env x.qK).1),(Wcs bd tk env x.qK).2))/\(bCs bad x.qK=false->I kk (Wcs bd tk env x.qK).1):=fun x hx h2 fr tk kk hI=>by
    have hsub:∀y∈(x.qK.map Part.cl).flatMap pre,y∈(l.map Part.cl).flatMap pre:=fun y hy=>by
     obtain⟨z,hz,hy⟩:=Q3.1 hy;obtain⟨d,hd,rfl⟩:=G5.1 hz;exact Q3.2 ⟨_,Gl hx,YL (Xn hd) hy⟩
    have h1:((x.qK.map Part.cl).flatMap pre).length<(pre (.cl x)).length:=by
     rw[JL (.cl x)];show _<((x.qK.map Part.cl++x.qQ.map Part.pr).flatMap pre).length+1;rw[Gy,K2];omega
    have h2':=WJ (Gl (f:=Part.cl) hx);exact ih x.qK Vg Vg (fun y hy=>hs y (hsub y hy)) (fun t ht=>hnx t (hsub _ ht)) (htb.sub hx h2) G Vg fr tk kk Vg Vg hI
   generalize loop G (Zcx F Z9 rl nx c)=n1 at hih;unfold Zcx;dsimp only
   have:=Zjw (body:=Zkk F Z9 rl nx c l n1) (fun(q:Nat)(s:MB×MB×U Za)=>((q:Int),(s.1,s.2.1),s.2.2)) l
    (fun rest s=>s.2.2.length+rest.length<=70/\I (kk+12000*((rest.map Part.cl).flatMap pre).length) s.2.1)
    (fun rest s r=>r=some (bif bCs bad rest then .ZX 7 else .ok ((YM (rest.flatMap fun d=>Jf (.cl d) B) s.1,(Wcs bd s.2.1 env rest).1),s.2.2++(Wcs bd s.2.1 env rest).2))/\(bCs bad rest=false->I kk (Wcs bd s.2.1 env rest).1)) (F:=F) ?_ ?_ Vg (fr,tk,[]) ⟨by simp;omega,hI⟩
   ·obtain⟨e,hi⟩:=this;dsimp only at e hi;rw[Ge]at e;exact⟨e,hi⟩
   ·rintro⟨fr,tk,acc⟩ nx' ⟨hp1,hp2⟩;dsimp only at hp1 hp2 ⊢;rw[ZiD,Zoy];refine⟨?_,fun _=>ZrG hE Vg hp2⟩;simp only[Zkk,Z6,Cq0,Gn];rfl
   ·rintro q x rest ⟨fr,tk,acc⟩ nx' hx hq hg ⟨hp1,hp2⟩ hr;dsimp only at hp1 hp2 ⊢;rw[Gd,Ks,K2]at hp2;simp only[KK]at hp1;have ZDg:∀y∈pre (.cl x),y∈(l.map Part.cl).flatMap pre:=fun y hy=>Q3.2 ⟨_,Gl hx,hy⟩
    have hxs:(pre (.cl x)).all Uo=true:=Kx.2 fun y hy=>hs y (ZDg y hy)
    have hxC:Zak x=true:=hs _ (ZDg _ (Y4 _));have hxl:=WJ (Gl (f:=Part.cl) hx)
    have hif:x.qV=1\/x.qV=2:=by
     rcases(Zbl hxC).2 with h|h
     ·exact .inl h
     ·exact .inr h.1
    rw[Ks,ZkU,ZkI,J5];dsimp only;have fin:∀y:Za,app 96 acc [y]=some (acc++[y]):=fun y=>Ws (by simp;omega) Vg
    have main:(bif x.qV==2 then(Zkn F fr c x.qJ).bind fun y=>(n1 ((y.1,tk),x.qK)).bind fun d=>Jp d (fun e=>some (.ZX e)) fun d=>(YA x.qQ 0).bind fun k=>(nx (d.1,c,k)).bind fun z=>Jp z (fun e=>some (.ZX e)) fun z=>(app 96 acc [Za.mk x.qV y.2 [] d.2 [z.2]]).bind fun a=>nx' (XO ((q:Int)+1),z.1,a) else(Zms F Z9 rl nx (fr,tk) c x).bind fun z=>Jp z (fun e=>some (.ZX e)) fun z=>(app 96 acc [z.2]).bind fun a=>nx' (XO ((q:Int)+1),z.1,a))=(bif bC bad x then some (.ZX 7) else nx' (XO ((q:Int)+1),(YM (Jf (.cl x) B) fr,(Wc bd tk env x).1),acc++[(Wc bd tk env x).2]))/\(bC bad x=false->I (kk+12000*((rest.map Part.cl).flatMap pre).length) (Wc bd tk env x).1):=by
     rcases hif with h1|h2
     ·have hne:(x.qV==2)=false:=by rw[h1];rfl
      obtain⟨e,hi⟩:=ZHk hF hE hc nx x hxs Vg h1 Vg Vg (fun m hm=>htb.j (E0,l) Gm x hx m hm) (fun k hk=>hnx k (ZDg _ (YL (Xe hk) (Y4 _)))) fr tk (kk+12000*((rest.map Part.cl).flatMap pre).length) (ZrG hE Vg hp2);rw[hne];simp only[Cq0];rw[e,Bq0];refine⟨?_,hi⟩;cases bC bad x
      ·simp only[Cq0,Zc9,fin,Bq0]
      ·rfl
     ·have he2:(x.qV==2)=true:=by rw[h2];rfl
      obtain⟨_,_,k,hk⟩:=Ud hxC
      have hj0:x.qG=[]:=by
       rcases(Zbl hxC).2 with h|h
       ·omega
       ·exact h.2
      have hsz:(pre (.cl x)).length=((x.qK.map Part.cl).flatMap pre).length+(pre (.pr k)).length+1:=by
       rw[JL];show((x.qK.map Part.cl++x.qQ.map Part.pr).flatMap pre).length+1=_;rw[hk,Gy,K2];simp
      have hbc:bC bad x=(bCs bad x.qK||bT bad k):=by
       rw[Zrm,h2,hk];show(bCs bad x.qK||bTs bad [k])=_;rw[ZcE,Ziz,Bool.or_false]
      obtain⟨e1,i1⟩:=hih x hx h2 fr tk (kk+12000*((rest.map Part.cl).flatMap pre).length+12000*(pre (.pr k)).length) (ZrG hE Vg hp2);have hkm:k∈x.qQ:=by rw[hk];simp
      have ht:=ZiS (F:=F) x.qJ fr c Vg hc (htb.qJ hx h2);have g0:YA x.qQ 0=some k:=by rw[hk];rfl
      rw[he2,hbc];simp only[Cq1];rw[ht,Bq0,e1,Bq0];cases hbd:bCs bad x.qK
      ·obtain⟨e2,i2⟩:=hnx k (ZDg _ (YL (Xe hkm) (Y4 _))) (YM (x.qK.flatMap fun d=>Jf (.cl d) B) fr) (Wcs bd tk env x.qK).1 c env B Bn bad (kk+12000*((rest.map Part.cl).flatMap pre).length) hc Vg Vg (i1 hbd);rw[ZkV h2,hk,ZcW,Zgg,Zkv,hj0,hk];refine⟨?_,i2⟩;simp only[Cq0,Zc9,Bool.false_or];rw[show YA [k] 0=some k from rfl,Bq0,e2,Bq0];cases bT bad k
       ·simp only[Cq0,Zc9,fin,Bq0,Zv,List.flatMap_nil,Gn,Ks,J5]
       ·rfl
      ·exact⟨rfl,fun z=>by cases z⟩
    obtain⟨m1,m2⟩:=main;simp only[Zkk,ZR hq,Cq1,hg,Bq0];rw[m1];cases hbx:bC bad x
    ·have:=hr (YM (Jf (.cl x) B) fr,(Wc bd tk env x).1,acc++[(Wc bd tk env x).2]) ⟨by simp;omega,m2 hbx⟩;rw[Jj Vg];obtain⟨r1,r2⟩:=this;dsimp only at r1 r2;refine⟨?_,r2⟩;rw[Cq0,r1,Gc];rfl
    ·exact⟨rfl,fun z=>by cases z⟩
def ZxY(hF:10000000000000000000<=F)(hE:BE F I R Z9 rl fl bd):∀n t,(pre (.pr t)).all Uo=true->(pre (.pr t)).length<=n->n<=60->∀Fr,n<=Fr->TXg F I R bd (loop Fr (Zcy F Z9 rl fl)) t:=by
 intro n
 induction n with
 | zero=>intro t _ hn;have:=Xk (.pr t);omega
 | succ n ih=>
   intro t hs hn h60 Fr hFr fr tk c env B Bn bad kk hc hcl hB hI;obtain⟨G,rfl⟩:∃G,Fr=G+1:=⟨Fr-1,by omega⟩
   rw[Ya]
   have hsz:(pre (.pr t)).length=((t.args.map Part.ex).flatMap pre).length+(((t.qK.map Part.cl).flatMap pre).length+((t.qQ.map Part.pr).flatMap pre).length)+1:=by
    rw[JL];show((t.args.map Part.ex++t.qK.map Part.cl++t.qQ.map Part.pr).flatMap pre).length+1=_;rw[Gy,Gy,K2,K2];omega
   have hall:∀{x},x∈pre (.pr t)->(pre x).all Uo=true:=fun hx=>by
    rw[Kx]at hs ⊢;exact fun y hy=>hs y (ZaG hy hx)
   have hnext:∀x,Part.pr x∈pre (.pr t)->(pre (.pr x)).length<=n->TXg F I R bd (loop G (Zcy F Z9 rl fl)) x:=fun x hx hl=>ih x (hall hx) hl Vg G Vg
   generalize loop G (Zcy F Z9 rl fl)=n1 at hnext;have hal:t.args.length<=((t.args.map Part.ex).flatMap pre).length:=by have:=Zaz (t.args.map Part.ex);simpa using this
   have hkl:t.qQ.length<=((t.qQ.map Part.pr).flatMap pre).length:=by have:=Zaz (t.qQ.map Part.pr);simpa using this
   have hk:∀(fr tk:MB)(c:U NM)(env:NM)(B Bn:U Y)(bad:Y->Z)(tx:Y)(args:U Ze)(ds:U Za),CE R c env B Bn bad->c.length+2*((t.qQ.map Part.pr).flatMap pre).length<F->B.length+12000*((t.qQ.map Part.pr).flatMap pre).length<=750000->I (kk+12000*((t.qQ.map Part.pr).flatMap pre).length) tk ->
    Wz F t n1 tx args ((fr,tk),c,ds)=some (bif bTs bad t.qQ then .ZX 7 else .ok ((YM (t.qQ.flatMap fun k=>Jf (.pr k) B) fr,(Wts bd tk env t.qQ).1),Term.mk t.op tx args ds (Wts bd tk env t.qQ).2))/\(bTs bad t.qQ=false->I kk (Wts bd tk env t.qQ).1):=fun fr tk c env B Bn bad tx args ds hc hcl hB hI=>by
    unfold Wz;dsimp only
    have:=Zjw (body:=ZfO t n1 c tx args ds) (fun(q:Nat)(s:MB×MB×U Term)=>((q:Int),(s.1,s.2.1),s.2.2)) t.qQ
     (fun rest s=>s.2.2.length+rest.length<=70/\I (kk+12000*((rest.map Part.pr).flatMap pre).length) s.2.1)
     (fun rest s r=>r=some (bif bTs bad rest then .ZX 7 else .ok ((YM (rest.flatMap fun k=>Jf (.pr k) B) s.1,(Wts bd s.2.1 env rest).1),Term.mk t.op tx args ds (s.2.2++(Wts bd s.2.1 env rest).2)))/\(bTs bad rest=false->I kk (Wts bd s.2.1 env rest).1)) (F:=F) ?_ ?_ Vg (fr,tk,[]) ⟨by simp;omega,hI⟩
    ·obtain⟨e,hi⟩:=this;dsimp only at e hi;rw[Ge]at e;exact⟨e,hi⟩
    ·rintro⟨fr,tk,acc⟩ nx' ⟨hp1,hp2⟩;dsimp only at hp1 hp2 ⊢;rw[Zgg,Ziz];refine⟨?_,fun _=>ZrG hE Vg hp2⟩;simp only[ZfO,Z6,Cq0,Gn];rfl
    ·rintro q x rest ⟨fr,tk,acc⟩ nx' hx hq hg ⟨hp1,hp2⟩ hr;dsimp only at hp1 hp2 ⊢;rw[Gd,Ks,K2]at hp2;simp only[KK]at hp1;have hxl:=WJ (Gl (f:=Part.pr) hx);have hkx:=YI (Qa hx);obtain⟨e2,i2⟩:=hnext x (YL (Qa hx) (Y4 _)) Vg fr tk c env B Bn bad (kk+12000*((rest.map Part.pr).flatMap pre).length) hc Vg Vg (ZrG hE Vg hp2);have fin:app 96 acc [(Wt bd tk env x).2]=some (acc++[(Wt bd tk env x).2]):=Ws (by simp;omega) Vg;rw[Ks,ZcW,ZcE,J5];dsimp only;simp only[ZfO,ZR hq,Cq1,hg,Bq0,e2];cases hbx:bT bad x
     ·have:=hr (YM (Jf (.pr x) B) fr,(Wt bd tk env x).1,acc++[(Wt bd tk env x).2]) ⟨by simp;omega,i2 hbx⟩;obtain⟨r1,r2⟩:=this;dsimp only at r1 r2;refine⟨?_,r2⟩;simp only[Cq0,Zc9,fin,Bq0,Bool.false_or];rw[Jj Vg,r1,Gc];rfl
     ·exact⟨rfl,fun z=>by cases z⟩
   have ha:∀(fr:MB)(tx:Y),Zbv F Z9 rl fl t n1 tk c (fr,tx)=(bif t.op==4 then(ZsZ F t.qK).bind fun cp=>(app 16 cp.1 cp.2).bind fun names=>(Z9 tk c names (fl t)).bind fun bd=>(Zu4 F Z9 rl n1 (bd.2::c) (notes B (t.args.flatMap Qj) fr,bd.1) t.qK).bind fun d=>Jp d (fun e=>some (.ZX e)) fun d=>Wz F t n1 tx (t.args.map (exW env)) (d.1,bd.2::c,d.2) else Wz F t n1 tx (t.args.map (exW env)) ((notes B (t.args.flatMap Qj) fr,tk),c,[])):=fun fr tx=>by
    unfold Zbv;dsimp only
    refine Yt (body:=ZfP F Z9 rl fl t n1 tk c tx) (fun(q:Nat)(s:MB×U Ze)=>((q:Int),s.1,s.2)) t.args (fun rest s=>s.2.length+rest.length<=70)
     (fun rest s=>(bif t.op==4 then(ZsZ F t.qK).bind fun cp=>(app 16 cp.1 cp.2).bind fun names=>(Z9 tk c names (fl t)).bind fun bd=>(Zu4 F Z9 rl n1 (bd.2::c) (notes B (rest.flatMap Qj) s.1,bd.1) t.qK).bind fun d=>Jp d (fun e=>some (.ZX e)) fun d=>Wz F t n1 tx (s.2++rest.map (exW env)) (d.1,bd.2::c,d.2) else Wz F t n1 tx (s.2++rest.map (exW env)) ((notes B (rest.flatMap Qj) s.1,tk),c,[]))) (F:=F) ?_ ?_ Vg (fr,[]) (by simp;omega)
    ·rintro⟨fr,acc⟩ nx' hp;simp only[ZfP,Z6,Cq0,List.map_nil,Gn,List.flatMap_nil];rfl
    ·rintro q x rest ⟨fr,acc⟩ nx' hx hq hg hp hr;simp only[KK]at hp;have hkx:=YI (WH hx);have he:Zva F c fr x=some (notes B (Qj x) fr,exW env x):=ZGm hF hc Vg n x fr (hall (YL (WH hx) (Y4 _))) Vg Vg F Vg;have fin:app 56 acc [exW env x]=some (acc++[exW env x]):=Ws (by simp;omega) Vg;simp only[ZfP,ZR hq,Cq1,hg,Bq0,he,fin];rw[Jj Vg];refine(hr (notes B (Qj x) fr,acc++[exW env x]) (by simp;omega)).trans ?_;simp only[Ks,Zfc,Gd,Gc,List.singleton_append]
   have hb:∀(fr:MB)(tx:Y),tx=tx0 env t.qJ->Zbv F Z9 rl fl t n1 tk c (fr,tx)=some (bif(bif t.op==4 then bCs (QL bad (Q0 t.qK)) t.qK||bTs (QL bad (Q0 t.qK)) t.qQ else bTs bad t.qQ) then .ZX 7 else .ok ((YM (((t.args.flatMap Qj).map fun s=>(s,B))++(t.qK.flatMap (fun c=>Jf (.cl c) (bnd t B))++t.qQ.flatMap (fun k=>Jf (.pr k) (bnd t B)))) fr,(Wt bd tk env t).1),(Wt bd tk env t).2))/\((bif t.op==4 then bCs (QL bad (Q0 t.qK)) t.qK||bTs (QL bad (Q0 t.qK)) t.qQ else bTs bad t.qQ)=false->I kk (Wt bd tk env t).1):=fun fr tx htx=>by
    rw[ha,J5,J5,Zsp];by_cases h4:t.op=4
    ·have e4:(t.op==4)=true:=by rw[h4];rfl
     obtain⟨a,b,c'⟩:=Zif Vg hs (Y4 (.pr t));obtain⟨n1',n2'⟩:=Zq8 a b c';have hdl:(Q0 t.qK).length<=11040:=by unfold Q0;rw[K2];omega
     have hbn:bnd t B=B++Q0 t.qK:=by unfold bnd;rw[e4];rfl
     have hin:inT bd tk env t=((bd tk env (Q0 t.qK) (.pr t)).1,ext env (Q0 t.qK) (bd tk env (Q0 t.qK) (.pr t)).2):=by unfold inT;rw[e4];rfl
     obtain⟨mb,hbb,hci,hIb⟩:=hE.t tk c env B Bn bad t (kk+12000*((t.qQ.map Part.pr).flatMap pre).length+12000*((t.qK.map Part.cl).flatMap pre).length) hc hcl hB hs Vg h4 hdl (ZrG hE Vg hI);rw[ZtH h4,hin,hbn,e4];simp only[Cq1];generalize bd tk env (Q0 t.qK) (.pr t)=bv at hbb hci hIb;obtain⟨tk1,to⟩:=bv;dsimp only at hbb hci hIb ⊢;generalize ext env (Q0 t.qK) to=en at hci ⊢;have a1:app 16 (ZdR t.qK).1 (ZdR t.qK).2=some (Q0 t.qK):=Ws Vg Vg;rw[ZA6 hF t.qK a b c',Bq0,a1,Bq0,hbb,Bq0];dsimp only;have hBl:(B++Q0 t.qK).length<=B.length+11040:=by rw[K2];omega
     obtain⟨e1,i1⟩:=ZwS hF hE hci n1 n t.qK Vg Vg (fun y hy=>Kx.1 hs y (by rw[pre_eq];refine Kf _ ?_;show y∈(t.args.map Part.ex++t.qK.map Part.cl++t.qQ.map Part.pr).flatMap pre;rw[Gy,Gy];exact Gu _ (Gg _ hy)))
      (fun y hy=>by
        have hym:Part.pr y∈pre (.pr t):=by rw[pre_eq];refine Kf _ ?_;show _∈(t.args.map Part.ex++t.qK.map Part.cl++t.qQ.map Part.pr).flatMap pre;rw[Gy,Gy];exact Gu _ (Gg _ hy)
        obtain⟨z,hz,hyz⟩:=Q3.1 hy;obtain⟨d,hd,rfl⟩:=G5.1 hz;have:=Zhx hyz;have:=WJ hz;exact hnext y hym Vg) (ZKk Bn) F Vg (notes B (t.args.flatMap Qj) fr) tk1 (kk+12000*((t.qQ.map Part.pr).flatMap pre).length) (by simp only[KK];omega) Vg hIb
     unfold Zu4;rw[e1,Bq0];cases hbd:bCs (QL bad (Q0 t.qK)) t.qK
     ·obtain⟨e2,i2⟩:=hk (YM (t.qK.flatMap fun d=>Jf (.cl d) (B++Q0 t.qK)) (notes B (t.args.flatMap Qj) fr)) (Wcs bd tk1 en t.qK).1 (mb::c) en (B++Q0 t.qK) (Bn++Q0 t.qK) (QL bad (Q0 t.qK)) tx (t.args.map (exW env)) (Wcs bd tk1 en t.qK).2 hci (by simp only[KK];omega) Vg (i1 hbd);refine⟨?_,i2⟩;simp only[Cq0,Zc9,Bool.false_or];rw[e2,htx]
     ·exact⟨rfl,fun z=>by cases z⟩
    ·have e4:(t.op==4)=false:=by simpa using h4
     have hbn:bnd t B=B:=by unfold bnd;rw[e4];rfl
     have hd0:t.qK=[]:=Zgt (Kx.1 hs _ (Y4 (.pr t))) h4;rw[ZoP h4,hbn,e4,hd0];simp only[Cq0,List.flatMap_nil];obtain⟨e2,i2⟩:=hk (notes B (t.args.flatMap Qj) fr) tk c env B Bn bad tx (t.args.map (exW env)) [] hc Vg Vg (ZrG hE Vg hI);refine⟨?_,i2⟩;rw[e2,htx];rfl
   rw[Zoe,Zvq];unfold Zcy;dsimp only;by_cases ht:t.qJ=E0
   ·have:decide (t.qJ=(⟨#[]⟩:Y))=true:=decide_eq_true ht;rw[this,if_pos ht];simp only[QP,Cq0,Ge,Bool.false_and,Bool.false_or];exact hb fr E0 (by unfold tx0;rw[if_pos ht])
   ·have:decide (t.qJ=(⟨#[]⟩:Y))=false:=decide_eq_false ht;rw[this,if_neg ht];simp only[GA,Cq1,GG];rw[Zpc t.qJ fr c Vg hc,Bq0];cases hbx:bad t.qJ
    ·simp only[Bool.false_or];exact hb (note fr B t.qJ) (JX env t.qJ) (by unfold tx0;rw[if_neg ht])
    ·exact⟨rfl,fun z=>by cases z⟩
end
end
section
def Zdh{κ ν:Type}[DecidableEq κ](p:κ×ν)(l:U (κ×ν))(k:κ):Zq (p::l) k=if p.1=k then some p.2 else Zq l k:=by
 unfold Zq;rw[Z8];by_cases h:p.1=k
 ·rw[if_pos h,if_pos h];rfl
 ·rw[if_neg h,if_neg h];cases Z8 l k<;>rfl
def UJ{κ ν:Type}[DecidableEq κ](l r:U (κ×ν))(k:κ):Zq (l++r) k=match Zq l k with|some v=>some v|none=>Zq r k:=by
 cases h:Zq l k with
 | some v=>exact ZgG h
 | none=>exact ZgH h
def ZaW{κ ν:Type}[DecidableEq κ]{l:U (κ×ν)}{k:κ}{v:ν}(h:Zq l k=some v):(k,v)∈l:=by
 induction l with
 | nil=>cases h
 | cons p l ih=>
   rw[Zdh]at h;by_cases hk:p.1=k
   ·rw[if_pos hk]at h;cases h;subst hk;exact Gm
   ·rw[if_neg hk]at h;exact Kf _ (ih h)
def Zau{κ ν:Type}[DecidableEq κ]{l:U (κ×ν)}{k:κ}:(Zq l k).isSome=true↔k∈l.map (·.1):=by
 induction l with
 | nil=>simp[Zq,Z8]
 | cons p l ih=>
   rw[Zdh];by_cases hk:p.1=k
   ·rw[if_pos hk];simp[hk]
   ·rw[if_neg hk,ih];simp[Ne.symm hk]
def zip_fst{α β:Type}:∀(l:U α)(r:U β),l.length=r.length->(l.zip r).map (·.1)=l
 | [],_,_=>rfl
 | x::l,[],h=>by cases h
 | x::l,y::r,h=>by rw[GY,Gd,zip_fst l r (by simpa using h)]
def Zuc(x:Y):(pre (.ex (Uh x))).length=1:=by rw[JL];rfl
def ext_get{l to:U Y}(hl:l.length=to.length)(env:NM)(x:Y):(x∈l/\∃y∈to,Zq (ext env l to) x=some (Uh y))\/(x∉l/\Zq (ext env l to) x=Zq env x):=by
 have hk:(Zq ((l.zip to).map fun p=>(p.1,Uh p.2)).reverse x).isSome=true↔x∈l:=by
  rw[Zau,List.map_reverse,List.mem_reverse,Gt];show x∈(l.zip to).map (·.1)↔_;rw[zip_fst l to hl]
 unfold ext;rw[UJ];cases hg:Zq ((l.zip to).map fun p=>(p.1,Uh p.2)).reverse x with
 | none=>
   rw[hg]at hk;exact .inr ⟨by simpa using hk,rfl⟩
 | some v=>
   rw[hg]at hk;have:=ZaW hg;rw[List.mem_reverse,G5]at this;obtain⟨q,hq,e⟩:=this;cases e;exact .inl ⟨hk.1 rfl,q.2,(List.of_mem_zip hq).2,rfl⟩
def ZtQ{R:U NM->NM->Prop}{c:U NM}{env:NM}{B Bn:U Y}{bad:Y->Z}(h:CE R c env B Bn bad){l to:U Y}(hl:l.length=to.length){m:NM}(hm:∀x,Zq m x=Zq ((l.zip to).map fun p=>(p.1,Uh p.2)).reverse x)(hr:R (m::c) (ext env l to)):CE R (m::c) (ext env l to) (B++l) (Bn++l) (QL bad l):=by
 refine⟨fun x=>?_,fun x e he=>?_,fun x=>?_,fun x=>?_,fun x hx=>?_,hr⟩
 ·unfold ext Zh3;rw[UJ,hm x,h.get x];cases Zq ((l.zip to).map fun p=>(p.1,Uh p.2)).reverse x<;>rfl
 ·rcases ext_get hl env x with⟨_,y,_,hy⟩|⟨_,hy⟩
  ·rw[hy]at he;cases he;rw[Zuc];omega
  ·rw[hy]at he;exact h.sz x e he
 ·rw[Q1,h.b x];rcases ext_get hl env x with⟨h1,y,_,hy⟩|⟨h1,hy⟩
  ·rw[hy];simp[h1]
  ·rw[hy];simp[h1]
 ·unfold QL;rcases ext_get hl env x with⟨h1,y,_,hy⟩|⟨h1,hy⟩
  ·rw[hy,decide_eq_true h1]
   constructor
   ·intro z;simp at z
   ·rintro⟨e,he,h2⟩;cases he;exact absurd rfl h2
  ·rw[hy,decide_eq_false h1]
   simpa using h.bd x
 ·rw[Q1]at hx ⊢;unfold QL;by_cases h1:x∈l
  ·exact⟨.inr h1,by rw[decide_eq_true h1];simp⟩
  ·obtain⟨z1,z2⟩:=h.nb x (hx.resolve_right h1);exact⟨.inl z1,by rw[z2];rfl⟩
def Zhc(l:U Y)(x:Y):Zq (bindM l []) x=Zq ((l.zip l).map fun p=>(p.1,Uh p.2)).reverse x:=by
 rw[Zhb]
 have:∀l:U Y,(l.zip l).map (fun p=>(p.1,Uh p.2))=l.map fun y=>(y,Uh y):=by
  intro l
  induction l with
  | nil=>rfl
  | cons y l ih=>rw[GY,Gd,ih];rfl
 rw[this];by_cases hx:x∈l
 ·rw[if_pos hx]
  have:(Zq (l.map fun y=>(y,Uh y)).reverse x).isSome=true:=by
   rw[Zau,List.map_reverse,List.mem_reverse,Gt];exact G5.2 ⟨x,hx,rfl⟩
  cases hg:Zq (l.map fun y=>(y,Uh y)).reverse x with
  | none=>rw[hg]at this;cases this
  | some v=>
    have:=ZaW hg;rw[List.mem_reverse,G5]at this;obtain⟨q,_,e⟩:=this;cases e;rfl
 ·rw[if_neg hx];cases hg:Zq (l.map fun y=>(y,Uh y)).reverse x with
  | none=>rfl
  | some v=>
    have:=ZaW hg;rw[List.mem_reverse,G5]at this;obtain⟨q,hq,e⟩:=this;cases e;exact absurd hq hx
def bdI{σ:Type}:BF σ:=fun s _ l _=>(s,l)
def ZO7{F:Nat}(hF:10000000000000000000<=F)(rl:Za->U Y->O MB)(fl:Term->O MB):BE F (fun _ _=>True) (fun _ _=>True) (ZaM F) rl fl bdI where
 mono:=fun _ _ _ _=>trivial
 t:=fun tk c env B Bn bad t k hc _ _ _ _ _ hl _=>⟨bindM (Q0 t.qK) [],by unfold ZaM;rw[bind_eq hF _ Vg];rfl,ZtQ hc rfl (Zhc _) trivial,trivial⟩
 r:=fun tk c env B Bn bad p k hc _ _ _ _ _ hl _=>⟨bindM (Zv p.qG) [],by unfold ZaM;rw[bind_eq hF _ Vg];rfl,ZtQ hc rfl (Zhc _) trivial,trivial⟩
def IdE(env:NM):Prop:=∀x e,Zq env x=some e->e=Uh x
def ZiF{env:NM}(h:IdE env)(l:U Y):IdE (ext env l l):=fun x e he=>by
 unfold ext at he;rw[UJ,<-Zhc,Zhb]at he;by_cases hx:x∈l
 ·rw[if_pos hx]at he;cases he;rfl
 ·rw[if_neg hx]at he;simp only[Zq,Z8,Option.map_none]at he;exact h x e he
def ZE4:IdE []:=fun x e he=>by cases he
def Zm7{env:NM}(h:IdE env)(x:Y):JX env x=x:=by
 unfold JX;cases hg:Zq env x with
 | none=>rfl
 | some e=>rw[h x e hg];rfl
def ZxU{env:NM}(h:IdE env)(x:Y):tx0 env x=x:=by
 unfold tx0;split
 ·rename_i e;exact e.symm
 ·exact Zm7 h x
def ZJq{env:NM}(h:IdE env):∀n e,(pre (.ex e)).all Uo=true->(pre (.ex e)).length<=n->exW env e=e:=by
 intro n
 induction n with
 | zero=>intro e _ hn;have:=Xk (.ex e);omega
 | succ n ih=>
   intro e hs hn;have hsh:KW e=true:=Kx.1 hs _ (Y4 _);rw[Zoc];cases h2:e.op==2
   ·have:e.qQ.map (exW env)=e.qQ:=by
     conv=>rhs;rw[<-List.map_id e.qQ]
     exact List.map_congr_left fun x hx=>ih x (by rw[Kx]at hs ⊢;exact fun y hy=>hs y (YL (Qz hx) hy)) (by have:=YI (Qz hx);omega)
    rw[this];show Ze.mk e.op e.n e.qJ e.qQ=e;cases e;rfl
   ·cases hg:Zq env e.qJ with
    | none=>rfl
    | some y=>
      have h2':e.op=2:=by simpa using h2
      have hk:e.qQ=[]/\e.n=0:=by
       unfold KW at hsh;rw[h2']at hsh;simp only[Int.reduceBEq,Cq1,Cq0,Ba0,beq_iff_eq]at hsh;exact⟨G7 hsh.2,hsh.1.2⟩
      rw[h _ _ hg];obtain⟨op,nn,tx,ks⟩:=e;simp only at h2' hk;obtain⟨rfl,rfl⟩:=hk;subst h2';rfl
def ZGp(t:Term):Term.mk t.op t.qJ t.args t.qK t.qQ=t:=by cases t;rfl
def ZGq(t:Za):Za.mk t.qV t.qJ t.qG t.qK t.qQ=t:=by cases t;rfl
def ZS3{σ:Type}:∀n,(∀t,(pre (.pr t)).all Uo=true->(pre (.pr t)).length<=n->∀(s:σ) env,IdE env->Wt bdI s env t=(s,t))/\(∀c,(pre (.cl c)).all Uo=true->(pre (.cl c)).length<=n->∀(s:σ) env,IdE env->Wc bdI s env c=(s,c)):=by
 intro n
 induction n with
 | zero=>exact⟨fun t _ hn=>by have:=Xk (.pr t);omega,fun t _ hn=>by have:=Xk (.cl t);omega⟩
 | succ n ih=>
   have hts:∀(l:U Term),(∀x∈l,(pre (.pr x)).all Uo=true/\(pre (.pr x)).length<=n)->∀(s:σ) env,IdE env->Wts bdI s env l=(s,l):=by
    intro l
    induction l with
    | nil=>intro _ s env _;rw[Zgg]
    | cons x l ihl=>
      intro h s env he;have hx:=h x (by simp);rw[ZcW,ih.1 x hx.1 hx.2 s env he,ihl (fun y hy=>h y (Kf _ hy)) s env he]
   have hcs:∀(l:U Za),(∀x∈l,(pre (.cl x)).all Uo=true/\(pre (.cl x)).length<=n)->∀(s:σ) env,IdE env->Wcs bdI s env l=(s,l):=by
    intro l
    induction l with
    | nil=>intro _ s env _;rw[ZiD]
    | cons x l ihl=>
      intro h s env he;have hx:=h x (by simp);rw[ZkU,ih.2 x hx.1 hx.2 s env he,ihl (fun y hy=>h y (Kf _ hy)) s env he]
   have sub:∀{p k:Part},(pre p).all Uo=true->(pre p).length<=n+1->k∈ZJ p->(pre k).all Uo=true/\(pre k).length<=n:=fun hs hn hk=>⟨by rw[Kx]at hs ⊢;exact fun y hy=>hs y (YL hk hy),by have:=YI hk;omega⟩
   constructor
   ·intro t hs hn s env he
    have ha:t.args.map (exW env)=t.args:=by
     conv=>rhs;rw[<-List.map_id t.args]
     exact List.map_congr_left fun x hx=>ZJq he n x (sub hs hn (WH hx)).1 (sub hs hn (WH hx)).2
    by_cases h4:t.op=4
    ·have hin:inT bdI s env t=(s,ext env (Q0 t.qK) (Q0 t.qK)):=by unfold inT;rw[h4];rfl
     rw[ZtH h4,hin];dsimp only;rw[hcs t.qK (fun x hx=>sub hs hn (QA hx)) s _ (ZiF he _)];dsimp only;rw[hts t.qQ (fun x hx=>sub hs hn (Qa hx)) s _ (ZiF he _),ha,ZxU he,ZGp]
    ·have hd0:t.qK=[]:=Zgt (Kx.1 hs _ (Y4 (.pr t))) h4;rw[ZoP h4,hts t.qQ (fun x hx=>sub hs hn (Qa hx)) s env he,ha,ZxU he];dsimp only;rw[<-hd0,ZGp]
   ·intro c hs hn s env he;have hC:Zak c=true:=Kx.1 hs _ (Y4 _);by_cases h2:c.qV=2
    ·rw[ZkV h2,hcs c.qK (fun x hx=>sub hs hn (Xn hx)) s env he];dsimp only;rw[hts c.qQ (fun x hx=>sub hs hn (Xe hx)) s env he,Zm7 he]
     have hj0:c.qG=[]:=by
      rcases(Zbl hC).2 with h|h
      ·omega
      ·exact h.2
     dsimp only;rw[<-hj0,ZGq]
    ·have hf:c.qV=1:=by
      rcases(Zbl hC).2 with h|h
      ·exact h
      ·exact absurd h.1 h2
     obtain⟨ht,hd⟩:=Zgx hC hf;have hin:inC bdI s env c=(s,ext env (Zv c.qG) (Zv c.qG)):=by unfold inC;rw[hf];rfl
     have hj:c.qG.map (ZgC env (ext env (Zv c.qG) (Zv c.qG)))=c.qG:=by
      conv=>rhs;rw[<-List.map_id c.qG]
      refine List.map_congr_left fun m hm=>?_
      unfold ZgC;rw[Zm7 he]
      have:m.names.map (JX (ext env (Zv c.qG) (Zv c.qG)))=m.names:=by
       conv=>rhs;rw[<-List.map_id m.names]
       exact List.map_congr_left fun x _=>Zm7 (ZiF he _) x
      rw[this];rfl
     rw[ZoQ h2,hin];dsimp only;rw[hts c.qQ (fun x hx=>sub hs hn (Xe hx)) s _ (ZiF he _),hj];dsimp only;rw[<-ht,<-hd,ZGq]
def ZB0:CE (fun _ _=>True) [[]] [] [] [] (fun _=>false):=⟨fun x=>rfl,fun x e he=>(by cases he),fun x=>by simp[Zq,Z8],fun x=>⟨fun z=>(by cases z),fun⟨e,he,_⟩=>(by cases he)⟩,fun x hx=>(by cases hx),trivial⟩
def ZEO:∀n,(∀t,(pre (.pr t)).length<=n->∀bad,(∀x,bad x=false)->bT bad t=false)/\(∀c,(pre (.cl c)).length<=n->∀bad,(∀x,bad x=false)->bC bad c=false):=by
 intro n
 induction n with
 | zero=>exact⟨fun t hn=>by have:=Xk (.pr t);omega,fun t hn=>by have:=Xk (.cl t);omega⟩
 | succ n ih=>
   have hts:∀(l:U Term),(∀x∈l,(pre (.pr x)).length<=n)->∀bad,(∀x,bad x=false)->bTs bad l=false:=by
    intro l
    induction l with
    | nil=>intro _ bad _;rw[Ziz]
    | cons x l ihl=>intro h bad hb;rw[ZcE,ih.1 x (h x (by simp)) bad hb,ihl (fun y hy=>h y (Kf _ hy)) bad hb];rfl
   have hcs:∀(l:U Za),(∀x∈l,(pre (.cl x)).length<=n)->∀bad,(∀x,bad x=false)->bCs bad l=false:=by
    intro l
    induction l with
    | nil=>intro _ bad _;rw[Zoy]
    | cons x l ihl=>intro h bad hb;rw[ZkI,ih.2 x (h x (by simp)) bad hb,ihl (fun y hy=>h y (Kf _ hy)) bad hb];rfl
   have hless:∀(bad:Y->Z) l,(∀x,bad x=false)->∀x,QL bad l x=false:=fun bad l h x=>by unfold QL;rw[h x];rfl
   constructor
   ·intro t hn bad hb;rw[Zvq,hb,hcs t.qK (fun x hx=>by have:=YI (QA hx);omega) _ (hless bad _ hb),hts t.qQ (fun x hx=>by have:=YI (Qa hx);omega) _ (hless bad _ hb),hts t.qQ (fun x hx=>by have:=YI (Qa hx);omega) _ hb];simp
   ·intro c hn bad hb;rw[Zrm,hcs c.qK (fun x hx=>by have:=YI (Xn hx);omega) _ hb,hts c.qQ (fun x hx=>by have:=YI (Xe hx);omega) _ hb,hts c.qQ (fun x hx=>by have:=YI (Xe hx);omega) _ (hless bad _ hb)];simp
def Zbt{F:Nat}(hF:10000000000000000000<=F)(t:Term)(hs:(pre (.pr t)).all Uo=true)(hn:(pre (.pr t)).length<=60):Zbu F t=some (YM (Jf (.pr t) []) [])/\ZwG F t=some t:=by
 have h:=(ZxY hF (ZO7 hF (fun _ _=>none) (fun _=>none)) 60 t hs hn Vh F Vg [] [] [[]] [] [] [] _ 0 ZB0 (by simp only[KK,GQ];omega) (by simp;omega) trivial).1;rw[(ZS3 60).1 t hs hn [] [] ZE4,(ZEO 60).1 t hn _ fun _=>rfl]at h;have h':Zkp F (ZaM F) (fun _ _=>none) (fun _=>none) (([],[]),[[]],t)=_:=h;unfold Zbu ZwG;rw[h'];exact⟨rfl,rfl⟩
def Zdm{ν:Type}(m:U (Y×ν))(x:Y)(v:ν):(Yk m x v).map (·.1)=if x∈m.map (·.1) then m.map (·.1) else m.map (·.1)++[x]:=by
 have h:=Zau (l:=m) (k:=x);unfold Zq at h;unfold Yk;cases e:Z8 m x with
 | none=>
   rw[e]at h;rw[if_neg (by rw[<-h];simp)];simp
 | some q=>
   rw[e]at h;rw[if_pos (h.1 rfl)];have hq:=K6 e;apply GO;intro i;simp only[GN,List.getElem?_modify];by_cases hi:q.1=i
   ·subst hi;rw[hq];show Option.map _ (some (if q.1=q.1 then(x,v) else(x,q.2)))=_;rw[if_pos rfl];rfl
   ·cases m[i]?<;>simp[hi]
def Zwl(fr:MB)(e:Evt):(note fr e.2 e.1).map (·.1)=if e.1∈e.2\/e.1∈fr.map (·.1) then fr.map (·.1) else fr.map (·.1)++[e.1]:=by
 unfold note;by_cases h1:e.1∈e.2
 ·rw[if_pos h1,if_pos (.inl h1)]
 ·rw[if_neg h1,Zdm];by_cases h2:e.1∈fr.map (·.1)
  ·rw[if_pos h2,if_pos (.inr h2)]
  ·rw[if_neg h2,if_neg (by simp[h1,h2])]
def Ut:∀(l:U Evt)(fr:MB),(fr.map (·.1)).Nodup->((YM l fr).map (·.1)).Nodup/\(∀x,x∈(YM l fr).map (·.1)↔x∈fr.map (·.1)\/∃e∈l,x=e.1/\e.1∉e.2)/\(YM l fr).length<=fr.length+l.length
 | [],fr,h=>⟨h,fun x=>by simp[YM],K1 _⟩
 | e::l,fr,h=>by
   have hk:=Zwl fr e
   have hn:((note fr e.2 e.1).map (·.1)).Nodup:=by
    rw[hk];by_cases hm:e.1∈e.2\/e.1∈fr.map (·.1)
    ·rw[if_pos hm];exact h
    ·rw[if_neg hm,List.nodup_append];refine⟨h,by simp,fun a ha b hb=>?_⟩;rw[Q2.1 hb];exact fun e=>hm (.inr (e▸ha))
   obtain⟨i1,i2,i3⟩:=Ut l (note fr e.2 e.1) hn;refine⟨i1,fun x=>(i2 x).trans ?_,?_⟩
   ·have hx:x∈(note fr e.2 e.1).map (·.1)↔x∈fr.map (·.1)\/(x=e.1/\e.1∉e.2):=by
     rw[hk];by_cases hm:e.1∈e.2\/e.1∈fr.map (·.1)
     ·rw[if_pos hm];refine⟨.inl,fun h=>h.elim id fun h=>?_⟩;rcases hm with hm|hm
      ·exact absurd hm h.2
      ·exact h.1▸hm
     ·rw[if_neg hm,Q1,Q2];exact⟨fun h=>h.imp id fun e=>⟨e,fun z=>hm (.inl z)⟩,fun h=>h.imp id fun e=>e.1⟩
    rw[hx]
    constructor
    ·rintro((h|h) | ⟨e',he,h⟩)
     ·exact .inl h
     ·exact .inr ⟨e,by simp,h⟩
     ·exact .inr ⟨e',by simp[he],h⟩
    ·rintro(h|⟨e',he,h⟩)
     ·exact .inl (.inl h)
     ·rcases Kd.1 he with rfl|he
      ·exact .inl (.inr h)
      ·exact .inr ⟨e',he,h⟩
   ·have:(note fr e.2 e.1).length<=fr.length+1:=by
     have:=congrArg List.length hk;rw[Gf]at this;rw[this];split<;>simp
    show(YM l (note fr e.2 e.1)).length<=_;simp only[KK];omega
def Zpf(a b:Y):ZdV a b=decide (a.data.toList<b.data.toList):=Go.Proofs.bytesLess_eq _ _
def leS(a b:Y):Prop:=a.data.toList<=b.data.toList
def ZyZ{a b:Y}(h1:leS a b)(h2:leS b a):a=b:=by
 have:=List.le_antisymm h1 h2;cases a;cases b;exact congrArg _ (GX.1 this)
def ZhC{s:Y}:∀{l:U Y},l.Pairwise leS->(ZdM l s).Pairwise leS
 | [],_=>by simp[ZdM]
 | x::l,h=>by
   unfold ZdM;rw[GW]at h;cases hx:ZdV x s
   ·rw[Zpf,decide_eq_false_iff_not]at hx;have hsx:leS s x:=List.not_lt.1 hx;rw[Cq0,GW];refine⟨fun y hy=>?_,GW.2 h⟩;rcases Kd.1 hy with rfl|hy
    ·exact hsx
    ·exact List.le_trans hsx (h.1 y hy)
   ·rw[Zpf,decide_eq_true_eq]at hx;rw[Cq1,GW];refine⟨fun y hy=>?_,ZhC h.2⟩;rcases Zjr.1 hy with rfl|hy
    ·exact List.le_of_lt hx
    ·exact h.1 y hy
def ZjF{s:Y}:∀{l:U Y},l.Nodup->s∉l->(ZdM l s).Nodup
 | [],_,_=>by simp[ZdM]
 | x::l,h,hs=>by
   unfold ZdM;rw[GC]at h;rw[Kd,not_or]at hs;cases ZdV x s
   ·rw[Cq0,GC,Kd,not_or,GC];exact⟨hs,h⟩
   ·rw[Cq1,GC];exact⟨fun hm=>(Zjr.1 hm).elim (fun e=>hs.1 e.symm) h.1,ZjF h.2 hs.2⟩
def Zbj:∀(l:U Evt)(o:U Y),o.Pairwise leS->o.Nodup->(Zao l o).Pairwise leS/\(Zao l o).Nodup
 | [],o,h1,h2=>⟨h1,h2⟩
 | e::l,o,h1,h2=>by
   show(Zao l (ZdK o e.2 e.1)).Pairwise leS/\(Zao l (ZdK o e.2 e.1)).Nodup;unfold ZdK;by_cases h:e.1∈e.2\/e.1∈o
   ·rw[if_pos h];exact Zbj l o h1 h2
   ·rw[if_neg h];exact Zbj l _ (ZhC h1) (ZjF h2 fun z=>h (.inr z))
def Zph(m:MB):(Zbg m).Pairwise leS:=by
 unfold Zbg ZhX;refine List.Pairwise.map _ (fun a b h=>?_) (List.pairwise_mergeSort Zl9 Zma _)
 simpa[leS]using h
def ZvW(m:MB):(Zbg m).Perm (m.map (·.1)):=by
 unfold Zbg ZhX;refine((List.mergeSort_perm _ _).map _).trans ?_;unfold kbs;rw[Gt];refine List.Perm.of_eq (List.map_congr_left fun p _=>?_)
 rfl
def Zr6(l:U Evt):Zbg (YM l [])=Zao l []:=by
 obtain⟨k1,k2,_⟩:=Ut l [] List.nodup_nil;obtain⟨p1,p2⟩:=Zbj l [] List.Pairwise.nil List.nodup_nil;refine List.Perm.eq_of_pairwise (fun a b _ _ h1 h2=>ZyZ h1 h2) (Zph _) p1 ?_;refine(ZvW _).trans ((List.perm_ext_iff_of_nodup k1 p2).2 fun x=>?_);rw[k2,Zdi];simp
def Zjm{s:Y}(h:Xi s=true):s.size<=8:=by
 unfold Xi at h;simp only[Ba0,decide_eq_true_eq]at h;exact h.1.1.2
def ZwN:∀n p,(pre p).length<=n->(pre p).all Uo=true->∀B,∀e∈Jf p B,Xi e.1=true:=by
 intro n
 induction n with
 | zero=>intro p hp;have:=Xk p;omega
 | succ n ih=>
   intro p hn hs B e he;have sub:∀{k:Part},k∈ZJ p->∀B,∀e∈Jf k B,Xi e.1=true:=fun hk=>ih _ (by have:=YI hk;omega) (by rw[Kx]at hs ⊢;exact fun y hy=>hs y (YL hk hy))
   have ZML:∀x,(pre (.ex x)).all Uo=true->∀s∈Qj x,Xi s=true:=fun x hx s hm=>by
    unfold Qj at hm;obtain⟨y,hy,hm⟩:=Q3.1 hm;cases y with
    | ex y=>
      have hy2:KW y=true:=Kx.1 hx _ hy;cases h2:y.op==2<;>simp only[nm1,h2,Cq1,Cq0]at hm
      ·cases hm
      ·rw[Q2.1 hm];have h2':y.op=2:=by simpa using h2
       unfold KW at hy2;rw[h2']at hy2;simp only[Int.reduceBEq,Cq1,Cq0,Ba0]at hy2;exact hy2.1.1
    | pr y=>cases hm
    | cl y=>cases hm
   cases p with
   | ex x=>
     rw[Jf]at he;obtain⟨s,hm,rfl⟩:=G5.1 he;exact ZML x hs s hm
   | pr t=>
     rw[Zoe]at he;rcases Q1.1 he with he|he
     ·rcases Q1.1 he with he|he
      ·by_cases ht:t.qJ=E0
       ·rw[if_pos ht]at he;cases he
       ·rw[if_neg ht]at he;rw[Q2.1 he];have hT:ZdI t=true:=Kx.1 hs _ (Y4 _);unfold ZdI at hT;rw[Ba0]at hT;have h2:=hT.2;cases h:((t.op==2)||(t.op==6))||(t.op==8)<;>rw[h]at h2<;>simp only[Cq1,Cq0,decide_eq_true_eq]at h2
        ·exact absurd h2 ht
        ·exact h2
      ·obtain⟨s,hm,rfl⟩:=G5.1 he;obtain⟨a,ha,hm⟩:=Q3.1 hm;exact ZML a (by rw[Kx]at hs ⊢;exact fun y hy=>hs y (YL (WH ha) hy)) s hm
     ·rcases Q1.1 he with he|he
      ·obtain⟨d,hd,he⟩:=Q3.1 he;exact sub (QA hd) _ e he
      ·obtain⟨d,hd,he⟩:=Q3.1 he;exact sub (Qa hd) _ e he
   | cl c=>
     rw[Zkv]at he;rcases Q1.1 he with he|he
     ·obtain⟨d,hd,he⟩:=Q3.1 he;exact sub (Xn hd) _ e he
     ·obtain⟨d,hd,he⟩:=Q3.1 he;exact sub (Xe hd) _ e he
def ZpR{t:Term}(hs:(pre (.pr t)).all Uo=true)(hn:(pre (.pr t)).length<=60):ZgL (YM (Jf (.pr t) []) [])=true:=by
 obtain⟨k1,k2,k3⟩:=Ut (Jf (.pr t) []) [] List.nodup_nil;have hl:=Zvf (.pr t) [];unfold ZgL;rw[Ba0,Ba0,decide_eq_true_eq,decide_eq_true_eq,Kx];refine⟨⟨k1,fun p hp=>?_⟩,by simp only[GQ]at k3;omega⟩;have:=(k2 p.1).1 (Gl hp);simp only[List.map_nil,G9,false_or]at this;obtain⟨e,he,h1,_⟩:=this;have:=Zjm (ZwN _ _ Vh hs [] e he);rw[<-h1]at this;exact decide_eq_true Vg
def Js(t:Term):U Y:=Zao (Jf (.pr t) []) []
end
end Go.Proofs.YtbnepjakjmnadaaGreat
end
end
section
noncomputable section
namespace Go.ZF
section
variable{P:V7}{W:V9}{E:Type}
def ZnS(P:V7)(T:U J)(t:J):Z:=
 match P.underlying t with
 | some .bool=>true
 | some (.int _)=>true
 | some .string=>true
 | some (.slice e)=>T.contains e&&Nat.ble 1 (P.cellsOf e)
 | some (.struct fs)=>fs.toList.all (fun x=>T.contains x.type)&&Zby P fs.toList 0 (P.cellsOf t)
 | _=>false
def ZJu{enc:J×N->E}{T:U J}(hT:T.all (ZnS P T)=true):∀(fuel:Nat)(t:J)(cs:U N)(d:DataW E)(ps:U MemPlace),T.contains t=true->DataW.trod enc P W 0 (fun _=>true) true fuel t cs=some (d,ps)->ZmT P W t cs d:=by
 intro fuel
 induction fuel with
 | zero=>intro t cs d ps _ h;unfold DataW.trod at h;cases h
 | succ fuel ih=>
   intro t cs d ps hg h;have hg:ZnS P T t=true:=(Kx.1 hT) t (Gs.1 hg);unfold ZnS at hg;unfold DataW.trod at h;cases hu:P.underlying t with
   | none=>rw[hu]at hg;cases hg
   | some u=>
     rw[hu]at hg h;cases u with
     | bool=>
       split at h<;>try (first | (cases h;done) | (have hx:=‹some TypeDesc.bool=some _›;cases hx;done))
       cases h;exact Zdu rfl fun h=>.bool hu
     | int k=>
       split at h<;>try (first | (cases h;done) | (have hx:=‹some (TypeDesc.int k)=some _›;cases hx;done))
       rename_i hk;cases hk;split at h
       ·rename_i hw;cases h;obtain⟨rfl,hw⟩:=hw;exact Zdu rfl fun h=>.int hu hw
       ·cases h
     | string=>
       split at h<;>try (first | (cases h;done) | (have hx:=‹some TypeDesc.string=some _›;cases hx;done))
       split at h
       ·rename_i hw;cases h;exact Zdu rfl fun h=>.string hu hw
       ·cases h
     | slice e=>
       rw[Ba0]at hg;have hsz:=Nl0 hg.2;split at h<;>try (first | (cases h;done) | (have hx:=‹some (TypeDesc.slice e)=some _›;cases hx;done))
       ·cases h;exact Zdu rfl fun h=>.nil hu
       ·rename_i e' a len cap he;cases he;dsimp only at h;split at h
        ·rename_i hc;obtain⟨-,hlc,hcm⟩:=hc;rw[Option.bind_eq_some_iff]at h;obtain⟨elems,e1,h⟩:=h;rw[if_pos rfl,Option.map_eq_some_iff]at h;obtain⟨rest,e2,h⟩:=h;cases h;obtain⟨l1,g1⟩:=Zfi e1;obtain⟨l2,g2⟩:=Zfi e2;rw[List.length_range]at l1 l2;by_cases hcap:cap=0
         ·subst hcap;have hlen:len=0:=Vg
          subst hlen;cases elems with
          | cons _ _=>simp at l1
          | nil=>
            cases rest with
            | cons _ _=>simp at l2
            | nil=>
              intro ρ h hr hn;exact⟨ρ,h,_,Ren.le_refl ρ,Grow.refl h,hr,hn,LR.single (.UE a),.empty hu⟩
         ·have hel:∀i,i<len->∃cs x,W.cells? 0 (a.add (i*P.cellsOf e)) (P.cellsOf e)=some cs/\DataW.trod enc P W 0 (fun _=>true) true fuel e cs=some x/\elems[i]? =some x:=by
           intro i hi;have hx:i<elems.length:=Vg
           have:=g1 i i elems[i] (by simp[hi]) (by simp[hx]);rw[Option.bind_eq_some_iff]at this;obtain⟨cs,q1,q2⟩:=this;exact⟨cs,_,q1,q2,by simp[hx]⟩
          have h0:∃cs,W.cells? 0 a (P.cellsOf e)=some cs:=by
           have ha:a.add (0*P.cellsOf e)=a:=by rw[Nat.zero_mul];unfold Addr.add;rw[if_pos rfl]
           rcases Nat.eq_zero_or_pos len with hl|hl
           ·subst hl;have hx:0<rest.length:=Vg
            have:=g2 0 0 rest[0] (by rw[List.getElem?_range Vg]) (by simp[hx]);rw[Option.bind_eq_some_iff]at this;obtain⟨cs,q1,q2⟩:=this;rw[Nat.add_zero,ha]at q1;exact⟨cs,q1⟩
           ·obtain⟨cs,_,q,_⟩:=hel 0 hl;rw[ha]at q;exact⟨cs,q⟩
          have hcs:∀i,i<len->W.cells? 0 (a.add (i*P.cellsOf e)) (P.cellsOf e)=some ((W.cells? 0 (a.add (i*P.cellsOf e)) (P.cellsOf e)).getD []):=by
           intro i hi;obtain⟨cs,_,q,_⟩:=hel i hi;rw[q];rfl
          generalize ZRm:(fun i=>(W.cells? 0 (a.add (i*P.cellsOf e)) (P.cellsOf e)).getD [])=css;have hcs:∀i,i<len->W.cells? 0 (a.add (i*P.cellsOf e)) (P.cellsOf e)=some (css i):=fun i hi=>by rw[<-ZRm];exact hcs i hi
          obtain⟨hsp,c,el,fz,hb,hlim,hcell⟩:=Zs7 hsz h0 hcs
          have hlg:∀i y,((List.range len).map fun i=>(e,css i,((elems[i]?).map (·.1)).getD .nil))[i]? =some y->i<len/\y=(e,css i,((elems[i]?).map (·.1)).getD .nil):=by
           intro i y hy;rw[GN]at hy;rcases Gk i len with q|q
           ·rw[List.getElem?_range q]at hy;exact⟨q,(Oi0 hy).symm⟩
           ·rw[Jx (by simpa using q)]at hy;cases hy
          generalize hl:(List.range len).map (fun i=>(e,css i,((elems[i]?).map (·.1)).getD .nil))=l at hlg;have hll:l.length=len:=by rw[<-hl];simp
          have hm:l.map (·.2.2)=elems.map (·.1):=by
           apply GO;intro i;rw[<-hl,Gt,GN,GN];rcases Gk i len with q|q
           ·rw[List.getElem?_range q];obtain⟨_,x,_,_,q2⟩:=hel i q;simp[q2]
           ·rw[Jx (by simpa using q),Jx Vg];rfl
          have hlE:∀x∈l,ZmT P W x.1 x.2.1 x.2.2:=by
           intro x hx;obtain⟨i,hi⟩:=GI hx;obtain⟨hi2,rfl⟩:=hlg i x hi;obtain⟨cs,y,q1,q2,q3⟩:=hel i hi2;rw[hcs i hi2]at q1;cases q1;rw[q3];exact ih e _ _ y.2 hg.1 q2
          intro ρ h hr hn;obtain⟨ρ1,h1,els,p1,p2,p3,p4,p5,p6,p7⟩:=Zol l hlE ρ h hr hn
          have hec:∀(i:Nat)(x:U N×DataW E),els[i]? =some x->i<len/\LR ρ1 x.1 (css i)/\x.1.length=P.cellsOf e/\AR P h1 e x.1 x.2:=by
           intro i x hx;have hi:i<els.length:=(Li0 hx).1;have hi2:i<l.length:=Vg
           obtain⟨q,hy⟩:=hlg i l[i] (by simp[hi2]);have:=p7 i x l[i] hx (by simp[hi2]);rw[hy]at this;refine⟨q,this.1,?_,this.2⟩;rw[this.1.1];exact(Zg9 (hcs i q) hsz).1
          have hsize:∀x∈els,x.1.length=P.cellsOf e:=fun x hx=>by
           obtain⟨i,hi⟩:=GI hx;exact(hec i x hi).2.2.1
          obtain⟨r1,r2,r3,r4⟩:=ZCP (cs:=els.flatMap (·.1)) p3 p4 hb (by rw[ZfE els hsize,p6,hll];exact hlim) (by
           intro k v v' k1 k2
           have hk:k<els.length*P.cellsOf e:=by
            rw[<-ZfE els hsize];exact(Li0 k1).1
           have hd:k / P.cellsOf e*P.cellsOf e+k % P.cellsOf e=k:=by rw[Nat.mul_comm];exact Nat.div_add_mod _ _
           have hj:k % P.cellsOf e<P.cellsOf e:=Nat.mod_lt _ hsz;rw[<-hd,flat_get els hsize _ _ hj,Option.bind_eq_some_iff]at k1;obtain⟨x,x1,x2⟩:=k1;obtain⟨y1,y2,_,_⟩:=hec _ x x1;obtain⟨u,z1,z2⟩:=hcell _ _ y1 hj;rw[hd,k2]at z1;cases z1;exact y2.2 _ _ _ x2 z2)
          refine⟨_,_,[.slice (some ⟨h1.size,0,none⟩) els.length (2*cap)],Ren.le_trans p1 r1,p2.trans r2,r3,r4,LR.single ?_,?_⟩
          ·obtain⟨blk,off,spot⟩:=a;dsimp only at hsp;subst hsp;have ZRd:els.length=len:=Vg
           rw[ZRd];exact VR.slice 0 len (2*cap) cap (Ren.add_same _ _ _ _) ⟨KB hcm (by decide),by rw[if_pos Vg];omega⟩
          ·rw[<-hm,<-p5]
           exact .slice hu Vg hcm (by rw[H.Qc,if_pos rfl]) hsize fun x hx=>by
            obtain⟨i,hi⟩:=GI hx;exact((hec i x hi).2.2.2).grow r2
        ·cases h
     | struct fs=>
       rw[Ba0]at hg;dsimp only at h;split at h
       ·rename_i hlen;rw[Option.map_eq_some_iff]at h;obtain⟨xs,e1,h⟩:=h;cases h;obtain⟨l1,g1⟩:=Zfi e1
        have hlg:∀(i:Nat)(y:J×U N×DataW E),(List.zipWith (fun(f:Field)(x:DataW E×U MemPlace)=>(f.type,(cs.drop f.offset).take (P.cellsOf f.type),x.1)) fs.toList xs)[i]? =some y ->
         ∃(f:Field) (x:DataW E×U MemPlace),fs.toList[i]? =some f/\xs[i]? =some x/\y=(f.type,(cs.drop f.offset).take (P.cellsOf f.type),x.1):=by
         intro i y hy;rw[List.getElem?_zipWith]at hy;split at hy
         ·rename_i f x hf hx;exact⟨f,x,hf,hx,(Oi0 hy).symm⟩
         ·cases hy
        generalize hl:List.zipWith (fun(f:Field)(x:DataW E×U MemPlace)=>(f.type,(cs.drop f.offset).take (P.cellsOf f.type),x.1)) fs.toList xs=l at hlg;have hll:l.length=fs.toList.length:=by rw[<-hl,List.length_zipWith,l1];exact Nat.min_self _
        have hget:∀(i:Nat)(f:Field),fs.toList[i]? =some f->∃x,xs[i]? =some x/\l[i]? =some (f.type,(cs.drop f.offset).take (P.cellsOf f.type),x.1)/\DataW.trod enc P W 0 (fun _=>true) true fuel f.type ((cs.drop f.offset).take (P.cellsOf f.type))=some x:=by
         intro i f hf;have hi:i<xs.length:=by rw[l1];exact(Li0 hf).1
         have hx:xs[i]? =some xs[i]:=by simp[hi]
         refine⟨xs[i],hx,?_,g1 i f _ hf hx⟩;rw[<-hl,List.getElem?_zipWith,hf,hx]
        have hm:l.map (·.2.2)=xs.map (·.1):=by
         apply GO;intro i;rw[GN,GN];cases hf:fs.toList[i]? with
         | some f=>
           obtain⟨x,q1,q2,_⟩:=hget i f hf;rw[q1,q2];rfl
         | none=>
           have:=List.getElem?_eq_none_iff.1 hf;rw[Jx Vg,Jx Vg];rfl
        have hlE:∀x∈l,ZmT P W x.1 x.2.1 x.2.2:=by
         intro y hy;obtain⟨i,hi⟩:=GI hy;obtain⟨f,x,hf,hx,rfl⟩:=hlg i y hi;have hgf:=(Kx.1 hg.1) f (GZ hf);exact ih f.type _ _ x.2 hgf (g1 i f x hf hx)
        have hseg:cs=l.flatMap (·.2.1):=by
         have:=ZwE (P:=P) (cs:=cs) fs.toList 0 (by rw[hlen];exact hg.2);rw[List.drop_zero]at this
         have h3:l.map (·.2.1)=fs.toList.map fun(f:Field)=>(cs.drop f.offset).take (P.cellsOf f.type):=by
          apply GO;intro i;rw[GN,GN];cases hf:fs.toList[i]? with
          | some f=>
            obtain⟨x,q1,q2,_⟩:=hget i f hf;rw[q2];rfl
          | none=>
            have:=List.getElem?_eq_none_iff.1 hf;rw[Jx Vg];rfl
         rw[List.flatMap_def,h3,<-List.flatMap_def];exact this
        intro ρ h hr hn;obtain⟨ρ1,h1,els,p1,p2,p3,p4,p5,p6,p7⟩:=Zol l hlE ρ h hr hn
        have hlr:LR ρ1 (els.flatMap (·.1)) cs:=by
         rw[hseg];exact LR.flat els l p6 fun i x y e1 e2=>(p7 i x y e1 e2).1
        refine⟨ρ1,h1,els.flatMap (·.1),p1,p2,p3,p4,hlr,?_⟩;rw[<-hm,<-p5];refine .struct hu Vg (fun i x f hx hf=>?_) fun i x f hx hf=>?_
        ·obtain⟨y,q1,q2,_⟩:=hget i f hf;rw[(p7 i x _ hx q2).1.1];have hmem:Zby P fs.toList 0 cs.length=true:=by rw[hlen];exact hg.2
         obtain⟨c1,c2⟩:=Zti _ _ _ hmem;have c3:=c2 i f hf;have hi:=(Li0 hf).1
         have c4:((fs.toList.take i).map fun f=>P.cellsOf f.type).sum+P.cellsOf f.type+((fs.toList.drop (i+1)).map fun f=>P.cellsOf f.type).sum=(fs.toList.map fun f=>P.cellsOf f.type).sum:=by
          have:fs.toList=fs.toList.take i++f::fs.toList.drop (i+1):=by
           have h5:fs.toList[i]=f:=(Li0 hf).2;rw[<-h5,List.getElem_cons_drop,List.take_append_drop]
          conv=>rhs;rw[this]
          simp only[List.map_append,Gd,List.sum_append,List.sum_cons];omega
         dsimp only;rw[Gj,GE];omega
        ·obtain⟨y,q1,q2,_⟩:=hget i f hf;exact(p7 i x _ hx q2).2
       ·cases h
     | _=>cases hg
end
section
open Go.Lf
variable{P:V7}
def Zsf{α:Type}{e:UD α}{V:α->Prop}{E:Type}{h:H}{els:U (U N×DataW E)}{i cap:Nat}(hl:els.length<=cap)(hcap:cap<=maxLen)(hat:h.at i=.row (els.flatMap (·.1)) false 0)(hsz:∀x∈els,x.1.length=e.sz)
 (hel:∀x∈els,∃p y,x.1=e.sh p y/\V y/\∀wm,e.F wm h p y):
 ∃(p:O Addr×Nat) (ys:U α),[Value.slice (some ⟨i,0,none⟩) els.length (2*cap)]=(Yy e).sh p ys/\(∀y∈ys,V y)/\∀wm,(Yy e).F wm h p ys:=by
 obtain⟨ys,h1,hv,h2⟩:=ZcM (e:=e) els hel;refine⟨(some ⟨i,0,none⟩,2*cap),ys,by show [Value.slice _ _ _]=[Value.slice _ _ _];rw[h1],hv,fun wm=>⟨?_,?_,.inr (.inr ⟨_,_,rfl⟩),.inr ⟨i,0,_,false,0,rfl,hat,.inr rfl,?_,fun k y hk=>?_⟩⟩⟩
 ·rw[h1];exact KB (KB hl hcap) (by decide)
 ·rw[h1];omega
 ·rw[h1,G4,ZfE els hsz];exact K1 _
 ·obtain⟨x,p,q1,q2,q3⟩:=h2 k y hk;refine⟨p,?_,q3 wm⟩;rw[G4,Zex els hsz q1,q2]
end
end Go.ZF
end
end
section
noncomputable section
namespace Go.Proofs.YtbnepjakjmnadaaGreat
open Go.Lf
section
open Go.ZF Go.Lf
def wfI(n:Int):Prop:=(Lit.int .i64 n).wf=true
inductive ZoR:Ze->Prop
 | mk {x:Ze} (ho:wfI x.op) (hn:wfI x.n) (ht:x.qJ.size<=maxLen) (hk:∀y∈x.qQ,ZoR y):ZoR x
def ZE2(x:YJ):Prop:=x.qJ.size<=maxLen/\∀s∈x.names,s.size<=maxLen
mutual
inductive Zgh:Term->Prop
 | mk {x:Term} (ho:wfI x.op) (ht:x.qJ.size<=maxLen) (ha:∀y∈x.args,ZoR y) (hd:∀y∈x.qK,ZdD y) (hk:∀y∈x.qQ,Zgh y):Zgh x
inductive ZdD:Za->Prop
 | mk {x:Za} (ho:wfI x.qV) (ht:x.qJ.size<=maxLen) (ha:∀y∈x.qG,ZE2 y) (hd:∀y∈x.qK,ZdD y) (hk:∀y∈x.qQ,Zgh y):ZdD x
end
def ZLe:UA XX.P (Zi7 .i64) wfI 34:=.int Kq0 Kq0
def ZLf:UA XX.P (Zi7 .i64) wfI 28:=.int Kq0 Kq0
def ZHj:UA XX.P (Zi7 .i64) wfI 127:=.int Kq0 Kq0
def ZQh:UA XX.P (Zi7 .i64) wfI 3:=.int Kq0 Kq0
def Zyg:UA XX.P ZW (fun s=>s.size<=maxLen) 9:=.str Kq0 Kq0
def ZLd:UA XX.P (Yy ZW) (fun l=>∀x∈l,x.size<=maxLen) 22:=.slice Kq0 Kq0 Zyg
def ZHh:UA XX.P Yg ZE2 136:=⟨by kernel_rfl,fun a=>by
 obtain⟨els,rfl,hl,hel⟩:=a.ZvS Tryz.underlying136
 match els,hl,hel with
 | [x0,x1],_,hel=>
   obtain⟨p0,y0,e0,v0,f0⟩:=Zyg.2 (hel 0 x0 _ rfl rfl);obtain⟨p1,y1,e1,v1,f1⟩:=ZLd.2 (hel 1 x1 _ rfl rfl);exact⟨p1,⟨y0,y1⟩,by simp only[Ks,List.flatMap_nil,e0,e1];rfl,⟨v0,v1⟩,fun wm=>f1 wm⟩⟩
def ZHi:UA XX.P (Yy Yg) (fun l=>∀x∈l,ZE2 x) 128:=.slice Kq0 Kq0 ZHh
def ZrE(h:H)(cs:U N){α:Type}(e:UD α)(V:α->Prop):Prop:=∃p x,cs=e.sh p x/\V x/\∀wm,e.F wm h p x
structure ZBP(h:H)(t:TypeId)(cs:List Value):Prop where
 fe:t=36->ZrE h cs Zh ZoR
 fel:t=29->ZrE h cs (Yy Zh) (fun l=>∀x∈l,ZoR x)
 ft:t=33->ZrE h cs Zu Zgh
 ftl:t=31->ZrE h cs (Yy Zu) (fun l=>∀x∈l,Zgh x)
 fc:t=130->ZrE h cs Zc ZdD
 fcl:t=30->ZrE h cs (Yy Zc) (fun l=>∀x∈l,ZdD x)
def Zyx{h:H}{α:Type}{e:UD α}{V:α->Prop}:ZrE h [Vd] (Yy e) (fun l=>∀x∈l,V x):=⟨(none,0),[],rfl,by simp,fun _=>Sl.nil⟩
def Zok{h:H}{α:Type}{e:UD α}{V:α->Prop}:ZrE h [.slice (some ⟨0,0,some 0⟩) 0 0] (Yy e) (fun l=>∀x∈l,V x):=
 ⟨(some ⟨0,0,some 0⟩,0),[],rfl,by simp,fun _=>⟨by simp,by simp,.inr (.inl ⟨rfl,rfl⟩),.inl rfl⟩⟩
def ZxV{E:Type}{h:H}{t:J}{cs:U N}{d:DataW E}(a:AR XX.P h t cs d):ZBP h t cs:=by
 have no:∀{t:J}{cs:U N},t≠36->t≠29->t≠33->t≠31->t≠130->t≠30->ZBP h t cs:=fun a b c d e f=>⟨fun x=>absurd x a,fun x=>absurd x b,fun x=>absurd x c,fun x=>absurd x d,fun x=>absurd x e,fun x=>absurd x f⟩
 have u36:=Tryz.underlying36;have u29:=Tryz.underlying29;have u33:=Tryz.underlying33;have u31:=Tryz.underlying31;have ZxS:=Tryz.underlying130;have u30:=Tryz.underlying30
 have Zng:∀{t:J}{u:TypeDesc},XX.P.underlying t=some u->(∀e,u≠.slice e)->(∀f,u≠.struct f)->∀cs,ZBP h t cs:=by
  intro t u hu h1 h2 cs;refine no ?_ ?_ ?_ ?_ ?_ ?_<;>(rintro rfl)
  ·rw[show XX.P.underlying 36=_ from u36]at hu;cases hu;exact h2 _ rfl
  ·rw[show XX.P.underlying 29=_ from u29]at hu;cases hu;exact h1 _ rfl
  ·rw[show XX.P.underlying 33=_ from u33]at hu;cases hu;exact h2 _ rfl
  ·rw[show XX.P.underlying 31=_ from u31]at hu;cases hu;exact h1 _ rfl
  ·rw[show XX.P.underlying 130=_ from ZxS]at hu;cases hu;exact h2 _ rfl
  ·rw[show XX.P.underlying 30=_ from u30]at hu;cases hu;exact h1 _ rfl
 induction a with
 | bool hu=>exact Zng hu (fun _=>by simp) (fun _=>by simp) _
 | int hu _=>exact Zng hu (fun _=>by simp) (fun _=>by simp) _
 | string hu _=>exact Zng hu (fun _=>by simp) (fun _=>by simp) _
 | nil hu=>
   refine⟨?_,fun _=>Zyx,?_,fun _=>Zyx,?_,fun _=>Zyx⟩
   ·rintro rfl;rw[show XX.P.underlying 36=_ from u36]at hu;cases hu
   ·rintro rfl;rw[show XX.P.underlying 33=_ from u33]at hu;cases hu
   ·rintro rfl;rw[show XX.P.underlying 130=_ from ZxS]at hu;cases hu
 | empty hu=>
   refine⟨?_,fun _=>Zok,?_,fun _=>Zok,?_,fun _=>Zok⟩
   ·rintro rfl;rw[show XX.P.underlying 36=_ from u36]at hu;cases hu
   ·rintro rfl;rw[show XX.P.underlying 33=_ from u33]at hu;cases hu
   ·rintro rfl;rw[show XX.P.underlying 130=_ from ZxS]at hu;cases hu
 | slice hu hl hc hat hsz _ ih=>
   refine⟨?_,?_,?_,?_,?_,?_⟩
   ·rintro rfl;rw[show XX.P.underlying 36=_ from u36]at hu;cases hu
   ·rintro rfl;rw[show XX.P.underlying 29=_ from u29]at hu;cases hu;exact Zsf hl hc hat (fun x hx=>(hsz x hx).trans Kq0) fun x hx=>(ih x hx).fe rfl
   ·rintro rfl;rw[show XX.P.underlying 33=_ from u33]at hu;cases hu
   ·rintro rfl;rw[show XX.P.underlying 31=_ from u31]at hu;cases hu;exact Zsf hl hc hat (fun x hx=>(hsz x hx).trans Kq0) fun x hx=>(ih x hx).ft rfl
   ·rintro rfl;rw[show XX.P.underlying 130=_ from ZxS]at hu;cases hu
   ·rintro rfl;rw[show XX.P.underlying 30=_ from u30]at hu;cases hu;exact Zsf hl hc hat (fun x hx=>(hsz x hx).trans Kq0) fun x hx=>(ih x hx).fc rfl
 | @struct t fs els hu hl hsz hel ih=>
   refine⟨?_,?_,?_,?_,?_,?_⟩
   ·rintro rfl;rw[show XX.P.underlying 36=_ from u36]at hu;cases hu
    match els,hl,hel,ih with
    | [x0,x1,x2,x3],_,hel,ih=>
      obtain⟨p0,y0,e0,v0,f0⟩:=ZLe.2 (hel 0 x0 _ rfl rfl);obtain⟨p1,y1,e1,v1,f1⟩:=ZQh.2 (hel 1 x1 _ rfl rfl);obtain⟨p2,y2,e2,v2,f2⟩:=Zyg.2 (hel 2 x2 _ rfl rfl);obtain⟨p3,y3,e3,v3,f3⟩:=(ih 3 x3 _ rfl rfl).fel rfl;exact⟨p3,⟨y0,y1,y2,y3⟩,by simp only[Ks,List.flatMap_nil,e0,e1,e2,e3];rfl,.mk v0 v1 v2 v3,fun wm=>YB.2 (f3 wm)⟩
   ·rintro rfl;rw[show XX.P.underlying 29=_ from u29]at hu;cases hu
   ·rintro rfl;rw[show XX.P.underlying 33=_ from u33]at hu;cases hu
    match els,hl,hel,ih with
    | [x0,x1,x2,x3,x4],_,hel,ih=>
      obtain⟨p0,y0,e0,v0,f0⟩:=ZLf.2 (hel 0 x0 _ rfl rfl);obtain⟨p1,y1,e1,v1,f1⟩:=Zyg.2 (hel 1 x1 _ rfl rfl);obtain⟨p2,y2,e2,v2,f2⟩:=(ih 2 x2 _ rfl rfl).fel rfl;obtain⟨p3,y3,e3,v3,f3⟩:=(ih 3 x3 _ rfl rfl).fcl rfl;obtain⟨p4,y4,e4,v4,f4⟩:=(ih 4 x4 _ rfl rfl).ftl rfl;exact⟨(p2,p3,p4),⟨y0,y1,y2,y3,y4⟩,by simp only[Ks,List.flatMap_nil,e0,e1,e2,e3,e4];rfl,.mk v0 v1 v2 v3 v4,fun wm=>Qu.2 ⟨f2 wm,f3 wm,f4 wm⟩⟩
   ·rintro rfl;rw[show XX.P.underlying 31=_ from u31]at hu;cases hu
   ·rintro rfl;rw[show XX.P.underlying 130=_ from ZxS]at hu;cases hu
    match els,hl,hel,ih with
    | [x0,x1,x2,x3,x4],_,hel,ih=>
      obtain⟨p0,y0,e0,v0,f0⟩:=ZHj.2 (hel 0 x0 _ rfl rfl);obtain⟨p1,y1,e1,v1,f1⟩:=Zyg.2 (hel 1 x1 _ rfl rfl);obtain⟨p2,y2,e2,v2,f2⟩:=ZHi.2 (hel 2 x2 _ rfl rfl);obtain⟨p3,y3,e3,v3,f3⟩:=(ih 3 x3 _ rfl rfl).fcl rfl;obtain⟨p4,y4,e4,v4,f4⟩:=(ih 4 x4 _ rfl rfl).ftl rfl;exact⟨(p2,p3,p4),⟨y0,y1,y2,y3,y4⟩,by simp only[Ks,List.flatMap_nil,e0,e1,e2,e3,e4];rfl,.mk v0 v1 v2 v3 v4,fun wm=>Z5.2 ⟨f2 wm,f3 wm,f4 wm⟩⟩
   ·rintro rfl;rw[show XX.P.underlying 30=_ from u30]at hu;cases hu
def ZLg:UA XX.P Zh ZoR 36:=⟨by kernel_rfl,fun a=>(ZxV a).fe rfl⟩
def ZLc:UA XX.P Zu Zgh 33:=⟨by kernel_rfl,fun a=>(ZxV a).ft rfl⟩
def ZFj:U J:=[33,28,9,29,30,31,36,34,3,130,127,128,136,22]
def ZiR:ZFj.all (ZnS XX.P ZFj)=true:=Kq0
end
section
open Go.ZF Go.Lf
def Zdj:maxLen=BB:=by decide
def ZyW{wm:Nat}{h:H}{p:SlP}{x:Ze}(s:ZcZ wm h p x):ZoR x->Lo (.ex x):=by
 induction s with
 | @mk p x ps hk _ ih=>
   intro v;obtain⟨_,_,ht,hv⟩:=v;intro y hy;rw[pre_eq]at hy;rcases Kd.1 hy with rfl|hy
   ·exact⟨by rw[<-Zdj];exact ht,hk.max⟩
   ·obtain⟨k,hkk,hy⟩:=Q3.1 hy;obtain⟨z,hz,rfl⟩:=G5.1 hkk;obtain⟨i,hi⟩:=GI hz;exact ih i z hi (hv z hz) y hy
def ZDc{wm:Nat}{h:H}{a:O Addr}{c:Nat}{l:U Ze}(s:Sl Zh wm h a c l)(v:∀x∈l,ZoR x):∀x∈l,Lo (.ex x):=fun x hx=>by
 obtain⟨ps,_,hF⟩:=Sl.iff.1 s;obtain⟨i,hi⟩:=GI hx;exact ZyW (hF i x hi) (v x hx)
def ZDb{wm:Nat}{h:H}{a:O Addr}{c:Nat}{l:U YJ}(s:Sl Yg wm h a c l)(v:∀x∈l,ZE2 x):∀m∈l,m.qJ.size<=BB/\m.names.length<=BB/\∀s∈m.names,s.size<=BB:=fun m hm=>by
 obtain⟨ps,_,hF⟩:=Sl.iff.1 s;obtain⟨i,hi⟩:=GI hm;have f:Sl ZW wm h (ps i).1 (ps i).2 m.names:=hF i m hi;have:=v m hm;rw[<-Zdj];exact⟨this.1,f.max,this.2⟩
def ZyV{x:Term}(h1:x.qJ.size<=BB)(h2:x.args.length<=BB)(h3:x.qK.length<=BB)(h4:x.qQ.length<=BB)(a:∀y∈x.args,Lo (.ex y))(b:∀y∈x.qK,Lo (.cl y))(c:∀y∈x.qQ,Lo (.pr y)):Lo (.pr x):=by
 intro y hy;rw[pre_eq]at hy;rcases Kd.1 hy with rfl|hy
 ·exact⟨h1,h2,h3,h4⟩
 ·obtain⟨k,hk,hy⟩:=Q3.1 hy;simp only[ZJ,Q1,G5]at hk;rcases hk with(⟨z,hz,rfl⟩|⟨z,hz,rfl⟩) | ⟨z,hz,rfl⟩
  ·exact a z hz y hy
  ·exact b z hz y hy
  ·exact c z hz y hy
def ZyX{x:Za}(h1:x.qJ.size<=BB)(h2:x.qG.length<=BB)(h3:x.qK.length<=BB)(h4:x.qQ.length<=BB)(a:∀m∈x.qG,m.qJ.size<=BB/\m.names.length<=BB/\∀s∈m.names,s.size<=BB)(b:∀y∈x.qK,Lo (.cl y))(c:∀y∈x.qQ,Lo (.pr y)):Lo (.cl x):=by
 intro y hy;rw[pre_eq]at hy;rcases Kd.1 hy with rfl|hy
 ·exact⟨h1,h2,h3,h4,a⟩
 ·obtain⟨k,hk,hy⟩:=Q3.1 hy;simp only[ZJ,Q1,G5]at hk;rcases hk with⟨z,hz,rfl⟩|⟨z,hz,rfl⟩
  ·exact b z hz y hy
  ·exact c z hz y hy
def ZDa{wm:Nat}{h:H}{p:TmP}{x:Term}(s:Ju wm h p x):Zgh x->Lo (.pr x):=
 Ju.rec (motive_1:=fun p x _=>Zgh x->Lo (.pr x)) (motive_2:=fun p x _=>ZdD x->Lo (.cl x))
  (fun{p x} pd pk ha hd hk _ _ i1 i2 v=>by
    obtain⟨_,ht,va,vd,vk⟩:=v
    exact ZyV (by rw[<-Zdj];exact ht) ha.max hd.max hk.max (ZDc ha va)
     (fun y hy=>by obtain⟨i,hi⟩:=GI hy;exact i1 i y hi (vd y hy)) (fun y hy=>by obtain⟨i,hi⟩:=GI hy;exact i2 i y hi (vk y hy)))
  (fun{p x} pd pk ha hd hk _ _ i1 i2 v=>by
    obtain⟨_,ht,va,vd,vk⟩:=v
    exact ZyX (by rw[<-Zdj];exact ht) ha.max hd.max hk.max (ZDb ha va)
     (fun y hy=>by obtain⟨i,hi⟩:=GI hy;exact i1 i y hi (vd y hy)) (fun y hy=>by obtain⟨i,hi⟩:=GI hy;exact i2 i y hi (vk y hy))) s
def ZjW(t:Term)(x:Ze):Nat:=10000000000000000000+((pre (.pr t)).length+(pre (.ex x)).length)
end
section
def ZdX(t:Term):(Js t).length<=(pre (.pr t)).length:=by
 have a:=ZlV (Jf (.pr t) []) [];have b:=Zvf (.pr t) [];unfold Js;simp only[GQ]at a;omega
def ZAa{F:Nat}(hF:10000000000000000000<=F)(t:Term)(hs:Lo (.pr t))(hFp:(pre (.pr t)).length<=F):ZwL F t=some (bif Ql AgW (.pr t) then(Js t,0) else([],2)):=by
 unfold ZwL;rw[Zoq hF t hs hFp];cases h:Ql AgW (.pr t)
 ·rfl
 ·obtain⟨a,b⟩:=WI h;show((Zbu F t).bind fun m=>bif ZgL m then some (Zbg m,0) else none)=_;rw[(Zbt hF t a b).1,Bq0,ZpR a b,Zr6];rfl
def Zf7(q:U (Y×Y))(m:NM):NM:=q.foldl (fun m p=>Yk m p.1 (Uh p.2)) m
def Zha:∀(q:U (Y×Y))(m:NM)(x:Y),Zq (Zf7 q m) x=match Zq (q.map fun p=>(p.1,Uh p.2)).reverse x with|some v=>some v|none=>Zq m x
 | [],m,x=>by simp[Zf7,Zq,Z8]
 | p::q,m,x=>by
   show Zq (Zf7 q (Yk m p.1 (Uh p.2))) x=_;rw[Zha q,Wi,Gd,List.reverse_cons,UJ];cases Zq (q.map fun p=>(p.1,Uh p.2)).reverse x with
   | some v=>rfl
   | none=>
     rw[Zdh];by_cases h:x=p.1
     ·rw[if_pos h,if_pos h.symm]
     ·rw[if_neg h,if_neg fun e=>h e.symm];rfl
def ZBl{F:Nat}(hF:10000000000000000000<=F)(l to:U Y)(hl:l.length=to.length)(hn:l.length<=100000):loop F (Zad l to) (0,[])=some (Zf7 (l.zip to) []):=by
 have hz:(l.zip to).length=l.length:=by rw[List.length_zip,<-hl,Nat.min_self]
 refine Yt (body:=Zad l to) (fun(k:Nat)(m:NM)=>((k:Int),m)) (l.zip to) (fun _ _=>True) (fun rest m=>some (Zf7 rest m)) (F:=F) ?_ ?_ Vg [] trivial
 ·intro m nx _;rw[hz];simp only[Zad,Z6,Cq0];rfl
 ·intro k p rest m nx hx hk hg _ ih;rw[hz]at hk;have hg':(l.zip to)[k]? =some p:=by rwa[Zco]at hg
  rw[List.getElem?_zip_eq_some]at hg';simp only[Zad,ZR hk,Cq1,Zco,hg'.1,hg'.2,Bq0,ZqJ];rw[Jj Vg];exact ih _ trivial
def ZO(m:MB):U Y:=m.map (·.1)
def JV(m:MB):Prop:=∀p∈m,p.2=true
def JV.get{m:MB}(h:JV m)(x:Y):(Zq m x).getD false=decide (x∈ZO m):=by
 have hs:=Zau (l:=m) (k:=x);cases e:Zq m x with
 | none=>
   rw[e]at hs;rw[decide_eq_false (show ¬ x∈ZO m from fun z=>(by have:=hs.2 z;cases this))];rfl
 | some v=>
   rw[e]at hs;rw[decide_eq_true (show x∈ZO m from hs.1 rfl)];exact h _ (ZaW e)
def JV.Yk{m:MB}(h:JV m)(x:Y):JV (Yk m x true):=fun p hp=>by
 rcases Go.ZF.Zjn hp with q|q
 ·exact h p q
 ·exact q
def ZjC{m:MB}(h:m.length<=800000):ZO (Yk m (Jm (ZO m)) true)=ZO m++[Jm (ZO m)]:=by
 have:=(ZhJ (l:=ZO m) (by unfold ZO;rw[Gf];omega)).2;unfold ZO at this ⊢;rw[Zdm,if_neg this]
def Zdk{m:MB}(h:m.length<=800000):(Yk m (Jm (ZO m)) true).length=m.length+1:=by
 have:=congrArg List.length (ZjC h);unfold ZO at this;rw[K2,Gf,Gf,List.length_singleton]at this;exact this
def ZI0{F:Nat}(hF:10000000000000000000<=F){m:MB}(h:JV m)(hl:m.length<=800000):ZAD F m=some (Yk m (Jm (ZO m)) true,Jm (ZO m)):=by
 unfold ZAD;rw[ZAz (l:=ZO m) h.get Vg (by unfold ZO;rw[Gf];omega)];rfl
def IC(k:Nat)(tk:MB):Prop:=JV tk/\tk.length+k<=800000
def ZvE{R:U NM->NM->Prop}{c:U NM}{env:NM}{B Bn:U Y}{bad:Y->Z}(h:CE R c env B Bn bad){l to:U Y}(hl:l.length=to.length)(hr:R (Zf7 (l.zip to) []::c) (ext env l to)):CE R (Zf7 (l.zip to) []::c) (ext env l to) (B++l) (Bn++l) (QL bad l):=
 ZtQ h hl (fun x=>by
  rw[Zha];cases Zq ((l.zip to).map fun p=>(p.1,Uh p.2)).reverse x<;>simp[Zq,Z8]) hr
def Zk0:∀(l:U Evt)(m:MB),JV m->JV (YM l m)
 | [],m,h=>h
 | e::l,m,h=>by
   show JV (YM l (note m e.2 e.1));refine Zk0 l _ ?_;unfold note;by_cases h1:e.1∈e.2
   ·rw[if_pos h1];exact h
   ·rw[if_neg h1];exact h.Yk _
inductive WsP{σ α:Type}(P:σ->α->σ×α->Prop):σ->List α->σ×List α->Prop
 | nil {s:σ}:WsP P s [] (s,[])
 | cons {s:σ} {a:α} {l:List α} {r:σ×α} {q:σ×List α} (h:P s a r) (t:WsP P r.1 l q):WsP P s (a::l) (q.1,r.2::q.2)
def ZOS{σ:Type}(bd:BF σ)(PT:σ->NM->Term->σ×Term->Prop)(PC:σ->NM->Za->σ×Za->Prop)
 (hd:∀(s:σ)(env en:NM)(t:Term)(s1:σ)(to:U Y)(rd:σ×U Za)(rk:σ×U Term),t.op=4->bd s env (Q0 t.qK) (.pr t)=(s1,to)->en=ext env (Q0 t.qK) to ->
   WsP (fun s c r=>PC s en c r) s1 t.qK rd->WsP (fun s k r=>PT s en k r) rd.1 t.qQ rk->PT s env t (rk.1,.mk t.op (tx0 env t.qJ) (t.args.map (exW env)) rd.2 rk.2))
 (he:∀(s:σ)(env:NM)(t:Term)(rk:σ×U Term),t.op≠4->WsP (fun s k r=>PT s env k r) s t.qQ rk->PT s env t (rk.1,.mk t.op (tx0 env t.qJ) (t.args.map (exW env)) [] rk.2))
 (hp:∀(s:σ)(env:NM)(c:Za)(rd:σ×U Za)(rk:σ×U Term),c.qV=2->WsP (fun s d r=>PC s env d r) s c.qK rd->WsP (fun s k r=>PT s env k r) rd.1 c.qQ rk->PC s env c (rk.1,.mk c.qV (JX env c.qJ) [] rd.2 rk.2))
 (hr:∀(s:σ)(env en:NM)(c:Za)(s1:σ)(to:U Y)(rk:σ×U Term),c.qV≠2->bd s env (Zv c.qG) (.cl c)=(s1,to)->en=ext env (Zv c.qG) to ->
   WsP (fun s k r=>PT s en k r) s1 c.qQ rk->PC s env c (rk.1,.mk c.qV E0 (c.qG.map (ZgC env en)) [] rk.2)):
 (∀t s env,PT s env t (Wt bd s env t))/\(∀c s env,PC s env c (Wc bd s env c)):=by
 have main:∀n,(∀t,pz (.pr t)<n->∀s env,PT s env t (Wt bd s env t))/\(∀c,pz (.cl c)<n->∀s env,PC s env c (Wc bd s env c)):=by
  intro n
  induction n with
  | zero=>exact⟨fun t h=>absurd h (Nat.not_lt_zero _),fun t h=>absurd h (Nat.not_lt_zero _)⟩
  | succ n ih=>
    have hts:∀(l:U Term),(∀x∈l,pz (.pr x)<n)->∀s env,WsP (fun s k r=>PT s env k r) s l (Wts bd s env l):=by
     intro l
     induction l with
     | nil=>intro _ s env;rw[Zgg];exact .nil
     | cons x l ihl=>intro h s env;rw[ZcW];exact .cons (ih.1 x (h x (by simp)) s env) (ihl (fun y hy=>h y (Kf _ hy)) _ env)
    have hcs:∀(l:U Za),(∀x∈l,pz (.cl x)<n)->∀s env,WsP (fun s k r=>PC s env k r) s l (Wcs bd s env l):=by
     intro l
     induction l with
     | nil=>intro _ s env;rw[ZiD];exact .nil
     | cons x l ihl=>intro h s env;rw[ZkU];exact .cons (ih.2 x (h x (by simp)) s env) (ihl (fun y hy=>h y (Kf _ hy)) _ env)
    constructor
    ·intro t hn s env;by_cases h4:t.op=4
     ·have hin:inT bd s env t=((bd s env (Q0 t.qK) (.pr t)).1,ext env (Q0 t.qK) (bd s env (Q0 t.qK) (.pr t)).2):=by unfold inT;rw[h4];rfl
      rw[ZtH h4,hin];exact hd s env _ t _ _ _ _ h4 rfl rfl (hcs _ (fun x hx=>by have:=UK (QA hx);omega) _ _) (hts _ (fun x hx=>by have:=UK (Qa hx);omega) _ _)
     ·rw[ZoP h4];exact he s env t _ h4 (hts _ (fun x hx=>by have:=UK (Qa hx);omega) _ _)
    ·intro c hn s env;by_cases h2:c.qV=2
     ·rw[ZkV h2];exact hp s env c _ _ h2 (hcs _ (fun x hx=>by have:=UK (Xn hx);omega) _ _) (hts _ (fun x hx=>by have:=UK (Xe hx);omega) _ _)
     ·have hin:inC bd s env c=((bd s env (Zv c.qG) (.cl c)).1,ext env (Zv c.qG) (bd s env (Zv c.qG) (.cl c)).2):=by
       unfold inC;have:(c.qV==2)=false:=by simpa using h2
       rw[this];rfl
      rw[ZoQ h2,hin];exact hr s env _ c _ _ _ h2 rfl rfl (hts _ (fun x hx=>by have:=UK (Xe hx);omega) _ _)
 exact⟨fun t=>(main _).1 t (Nat.lt_succ_self _),fun c=>(main _).2 c (Nat.lt_succ_self _)⟩
def ZpG:∀(xs:U Y)(h:Y->Z),Znv h xs=true↔xs.Nodup/\∀x∈xs,h x=false
 | [],h=>by simp[Znv]
 | x::xs,h=>by
   rw[Znv,Ba0,ZpG xs,GC,Bool.not_eq_true']
   constructor
   ·rintro⟨h1,h2,h3⟩;refine⟨⟨fun hm=>?_,h2⟩,fun y hy=>?_⟩
    ·have:=h3 x hm;rw[JT]at this;simp at this
    ·rcases Kd.1 hy with rfl|hy
     ·exact h1
     ·have:=h3 y hy;rw[JT]at this;exact this.1
   ·rintro⟨⟨h1,h2⟩,h3⟩;refine⟨h3 x (by simp),h2,fun y hy=>?_⟩;rw[JT,decide_eq_false_iff_not];exact⟨h3 y (Kf _ hy),fun e=>h1 (e▸hy)⟩
def ZBX:∀(es:U (Y×ZH))(f:Y->O ZH),JW f es=true↔es.Pairwise (fun a b=>a.1=b.1->a.2=b.2)/\∀e∈es,∀v,f e.1=some v->v=e.2
 | [],f=>by simp[JW]
 | e::es,f=>by
   rw[JW,Ba0,ZBX es,GW]
   have hok:okE f e=true↔∀v,f e.1=some v->v=e.2:=by
    unfold okE;cases hf:f e.1 with
    | none=>simp
    | some v=>simp[eqS]
   rw[hok]
   constructor
   ·rintro⟨h1,h2,h3⟩;refine⟨⟨fun b hb he=>?_,h2⟩,fun b hb v hv=>?_⟩
    ·exact h3 b hb e.2 (by unfold upd;rw[if_pos he.symm])
    ·rcases Kd.1 hb with rfl|hb
     ·exact h1 v hv
     ·by_cases hq:b.1=e.1
      ·have:=h3 b hb e.2 (by unfold upd;rw[if_pos hq]);rw[hq]at hv;rw[h1 v hv,this]
      ·exact h3 b hb v (by unfold upd;rw[if_neg hq];exact hv)
   ·rintro⟨⟨h1,h2⟩,h3⟩;refine⟨h3 e (by simp),h2,fun b hb v hv=>?_⟩;unfold upd at hv;by_cases hq:b.1=e.1
    ·rw[if_pos hq]at hv;cases hv;exact h1 b hb hq.symm
    ·rw[if_neg hq]at hv;exact h3 b (Kf _ hb) v hv
abbrev Sg:=Y×U (Y×Nat)
def mq(m:YJ):Y×Nat:=(m.qJ,m.names.length)
def sg(sp:Spt):Sg:=(sp.1,(jns sp.2).map mq)
def evS:Nat->U Sg->U (Y×ZH)
 | _,[]=>[]
 | a,g::r=>g.2.map (fun q=>(q.1,(⟨(a:Int),(q.2:Int)⟩:ZH)))++evS (a+1) r
def Zve:∀(l:U Spt)(a:Nat),evJ a l=evS a (l.map sg)
 | [],a=>rfl
 | sp::l,a=>by
   rw[evJ,Gd,evS,Zve l];unfold sg;rw[Gt]
   rfl
def AgS(g:U Sg):Prop:=((g.drop 1).map (·.1)).Nodup/\(evS 0 g).Pairwise (fun a b=>a.1=b.1->a.2=b.2)/\∀e∈evS 0 g,e.1∉(g.drop 1).map (·.1)
def sgs(l:U Za):U Sg:=((E0,l)::l.flatMap X9).map sg
def Zgu(l:U Za):(sgs l).drop 1=(l.flatMap X9).map sg:=rfl
def ZE8(l:U Za):AgW l=true↔AgS (sgs l):=by
 unfold AgW AgS;rw[Ba0,Ba0,ZpG,ZBX,Zve,Bool.not_eq_true',List.any_eq_false,Zgu];have e:((l.flatMap X9).map sg).map (·.1)=Zas l:=by unfold Zas;rw[Gt];rfl
 rw[e]
 constructor
 ·rintro⟨⟨⟨h1,_⟩,⟨h2,_⟩⟩,h3⟩;exact⟨h1,h2,fun x hx=>by have:=h3 x hx;simpa using this⟩
 ·rintro⟨h1,h2,h3⟩;exact⟨⟨⟨h1,fun _ _=>rfl⟩,h2,fun _ _ _ z=>by cases z⟩,fun x hx=>by simpa using h3 x hx⟩
def rnS(f:Y->Y)(g:Sg):Sg:=(f g.1,g.2.map fun q=>(f q.1,q.2))
def txS(g:U Sg):U Y:=(g.drop 1).map (·.1)++(evS 0 g).map (·.1)
def ded:U Y->U Y->U Y
 | acc,[]=>acc
 | acc,x::l=>ded (if x∈acc then acc else acc++[x]) l
def Zvi:∀(l:U Y)(s:CH),(∀x,has s.2 x=decide (x∈s.1))->(l.foldl dj s).1=ded s.1 l
 | [],s,_=>rfl
 | y::l,s,h=>by
   rw[Gq,ded]
   have hs:∀z,has (dj s y).2 z=decide (z∈(dj s y).1):=fun z=>by
    unfold dj;cases hz:has s.2 y
    ·simp only[Cq0];rw[Za3];show(has s.2 z||decide (z=y))=decide (z∈s.1++[y]);rw[h z];by_cases h1:z∈s.1<;>by_cases h2:z=y<;>simp[h1,h2]
    ·exact h z
   rw[Zvi l _ hs];have hy:=h y;unfold dj;by_cases hm:y∈s.1
   ·rw[hy,decide_eq_true hm,if_pos hm];rfl
   ·rw[hy,decide_eq_false hm,if_neg hm];rfl
def Ztd{f:Y->Y}:∀(l acc:U Y),(∀x∈acc++l,∀y∈acc++l,f x=f y->x=y)->ded (acc.map f) (l.map f)=(ded acc l).map f
 | [],acc,_=>rfl
 | x::l,acc,hi=>by
   rw[Gd,ded,ded]
   have e:f x∈acc.map f↔x∈acc:=by
    rw[G5]
    constructor
    ·rintro⟨y,hy,h⟩;rw[<-hi y (by simp[hy]) x (by simp) h];exact hy
    ·exact fun h=>⟨x,h,rfl⟩
   by_cases hx:x∈acc
   ·rw[if_pos hx,if_pos (e.2 hx)];exact Ztd l acc fun a ha b hb=>hi a (by rw[Q1]at ha ⊢;rcases ha with h|h<;>simp[h]) b (by rw[Q1]at hb ⊢;rcases hb with h|h<;>simp[h])
   ·rw[if_neg hx,if_neg fun z=>hx (e.1 z)];have:=Ztd l (acc++[x]) fun a ha b hb=>hi a (by simpa using ha) b (by simpa using hb)
    rw[List.map_append,Gd,List.map_nil]at this;exact this
def Zdv:∀(l acc:U Y),acc.Nodup->(ded acc l).Nodup/\∀x,x∈ded acc l↔x∈acc\/x∈l
 | [],acc,h=>⟨h,fun x=>by simp[ded]⟩
 | y::l,acc,h=>by
   rw[ded];by_cases hy:y∈acc
   ·rw[if_pos hy];obtain⟨a,b⟩:=Zdv l acc h;refine⟨a,fun x=>(b x).trans ?_⟩;rw[Kd];exact⟨fun z=>z.imp id .inr,fun z=>z.elim .inl fun z=>z.elim (fun e=>.inl (e▸hy)) .inr⟩
   ·rw[if_neg hy]
    obtain⟨a,b⟩:=Zdv l (acc++[y]) (by
     rw[List.nodup_append];exact⟨h,by simp,fun a ha b hb e=>hy (by rw[Q2.1 hb]at e;exact e▸ha)⟩)
    refine⟨a,fun x=>(b x).trans ?_⟩;rw[Q1,Q2,Kd]
    constructor
    ·rintro((h|h) | h)
     ·exact .inl h
     ·exact .inr (.inl h)
     ·exact .inr (.inr h)
    ·rintro(h|h|h)
     ·exact .inl (.inl h)
     ·exact .inl (.inr h)
     ·exact .inr h
def dnS(g:U Sg):U Y:=ded [] (g.flatMap fun q=>q.2.map (·.1))++(g.drop 1).map (·.1)
def Zf1(l:U Za):Q0 l=dnS (sgs l):=by
 unfold Q0 ZdR dnS;rw[Zvi _ ([],[]) fun x=>rfl,Zgu]
 have e1:((E0,l)::l.flatMap X9).flatMap (fun sp=>(jns sp.2).map (·.qJ))=(sgs l).flatMap fun q=>q.2.map (·.1):=by
  unfold sgs;rw[List.flatMap_map];refine congrArg (fun f=>List.flatMap f ((E0,l)::l.flatMap X9)) (funext fun sp=>?_);unfold sg;rw[Gt];rfl
 have e2:((l.flatMap X9).map sg).map (·.1)=Zas l:=by unfold Zas;rw[Gt];rfl
 rw[e1,e2]
def KM:∀(g:U Sg)(a:Nat),(evS a g).map (·.1)=g.flatMap fun q=>q.2.map (·.1)
 | [],a=>rfl
 | q::g,a=>by
   rw[evS,List.map_append,KM g,Ks,Gt];rfl
def Zut(g:U Sg)(x:Y):x∈dnS g↔x∈txS g:=by
 unfold dnS txS;rw[Q1,(Zdv _ [] List.nodup_nil).2,Q1,KM];simp only[G9,false_or];exact Or.comm
def ZwR{g:U Sg}(h:AgS g):(dnS g).Nodup:=by
 obtain⟨h1,_,h3⟩:=h;unfold dnS;rw[List.nodup_append];obtain⟨a,b⟩:=Zdv (g.flatMap fun q=>q.2.map (·.1)) [] List.nodup_nil;refine⟨a,h1,fun x hx y hy e=>?_⟩;subst e;have:=(b x).1 hx;rw[<-KM g 0]at this;simp only[G9,false_or]at this;obtain⟨ev,hev,rfl⟩:=G5.1 this;exact h3 ev hev hy
def ZJz{f:Y->Y}{g0:Sg}{g:U Sg}(hi:∀x∈txS (g0::g),∀y∈txS (g0::g),f x=f y->x=y):dnS ((g0.1,g0.2.map fun q=>(f q.1,q.2))::g.map (rnS f))=(dnS (g0::g)).map f:=by
 unfold dnS
 have e1:((g0.1,g0.2.map fun q=>(f q.1,q.2))::g.map (rnS f)).flatMap (fun q=>q.2.map (·.1))=((g0::g).flatMap fun q=>q.2.map (·.1)).map f:=by
  rw[Ks,Ks,List.flatMap_map,List.map_append,List.map_flatMap];refine congr (congrArg _ ?_) (congrArg (fun k=>List.flatMap k g) (funext fun q=>?_))
  ·rw[Gt,Gt];rfl
  ·unfold rnS;rw[Gt,Gt];rfl
 have e2:(((g0.1,g0.2.map fun q=>(f q.1,q.2))::g.map (rnS f)).drop 1).map (·.1)=(((g0::g).drop 1).map (·.1)).map f:=by
  show(g.map (rnS f)).map (·.1)=(g.map (·.1)).map f;rw[Gt,Gt];rfl
 have e3:=Ztd (f:=f) ((g0::g).flatMap fun q=>q.2.map (·.1)) [] fun x hx y hy=>hi x (Gg _ (by rw[KM];simpa using hx)) y (Gg _ (by rw[KM];simpa using hy))
 rw[e1,e2,List.map_append,<-e3,List.map_nil]
def ZC1(x:Y)(m0:NM):∀(c:U NM)(F:Nat),c.length+2<F->ZwF F (c++[m0]) x=some (!(Zh3 c x).isSome&&(Zq m0 x).isSome):=by
 intro c
 induction c with
 | nil=>
   intro F hF;obtain⟨G,rfl⟩:∃G,F=G+1:=⟨F-1,by omega⟩
   obtain⟨G,rfl⟩:∃G',G=G'+1:=⟨G-1,by omega⟩
   unfold ZwF;rw[Ge,Ya];show(bif(Zq m0 x).isSome then some true else loop (G+1) (ZqE x) [])=_;cases h:(Zq m0 x).isSome
   ·rw[Cq0,Ya];rfl
   ·rfl
 | cons m c ih=>
   intro F hF;obtain⟨G,rfl⟩:∃G,F=G+1:=⟨F-1,by omega⟩
   have:=ih G (by simp only[KK]at hF;omega);unfold ZwF at this ⊢;rw[List.cons_append,Ya];show(bif(Zq m x).isSome then some (c++[m0]).isEmpty else loop G (ZqE x) (c++[m0]))=_;have e:Zh3 (m::c) x=match Zq m x with|some v=>some v|none=>Zh3 c x:=rfl
   rw[e];cases h:Zq m x with
   | some v=>simp
   | none=>rw[Option.isSome_none,Cq0,this]
def rnm(mine:MB):MB->U Y->MB×U Y
 | tk,[]=>(tk,[])
 | tk,n::l=>if(Zq mine n).getD false then((rnm mine (Yk tk (Jm (ZO tk)) true) l).1,Jm (ZO tk)::(rnm mine (Yk tk (Jm (ZO tk)) true) l).2) else((rnm mine tk l).1,n::(rnm mine tk l).2)
def Zid(mine:MB):∀(l:U Y)(tk:MB),JV tk->tk.length+l.length<=800000->(rnm mine tk l).2.length=l.length/\(rnm mine tk l).1.length<=tk.length+l.length/\JV (rnm mine tk l).1
 | [],tk,h,_=>⟨rfl,K1 _,h⟩
 | n::l,tk,h,hl=>by
   simp only[KK]at hl;unfold rnm;split
   ·obtain⟨a,b,c⟩:=Zid mine l (Yk tk (Jm (ZO tk)) true) (h.Yk _) (by rw[Zdk Vg];omega);rw[Zdk Vg]at b;exact⟨by simp[a],by simp only[KK];omega,c⟩
   ·obtain⟨a,b,c⟩:=Zid mine l tk h Vg;exact⟨by simp[a],by simp only[KK];omega,c⟩
def Zsk{F:Nat}(hF:10000000000000000000<=F)(mine:MB):∀(rest pre done:U Y)(tk:MB)(G:Nat),done.length=pre.length->JV tk->tk.length+rest.length<=800000->pre.length+rest.length<=100000->rest.length<G ->
 loop G (Zmp F (pre++rest) mine) ((pre.length:Int),tk,done++rest)=some ((rnm mine tk rest).1,done++(rnm mine tk rest).2)
 | [],pre,done,tk,G,hd,h,hl,hn,hG=>by
   obtain⟨G,rfl⟩:∃G',G=G'+1:=⟨G-1,by omega⟩
   rw[Ya,Gn,Gn];simp only[Zmp,Z6,Cq0,rnm,Gn]
 | x::rest,pre,done,tk,G,hd,h,hl,hn,hG=>by
   simp only[KK]at hl hn hG;obtain⟨G,rfl⟩:∃G',G=G'+1:=⟨G-1,by omega⟩
   have hk:pre.length<(pre++x::rest).length:=by simp
   have hg:YA (pre++x::rest) (pre.length:Int)=some x:=by rw[Zco];simp
   have hg2:YA (done++x::rest) (pre.length:Int)=some x:=by rw[Zco,<-hd];simp
   have hs:∀y,Znh (done++x::rest) (pre.length:Int) y=(done++[y])++rest:=fun y=>by
    unfold Znh;rw[Int.toNat_natCast,<-hd,List.set_append_right _ _ Vh,Nat.sub_self,List.set_cons_zero,Gc];rfl
   have e1:(pre++x::rest)=(pre++[x])++rest:=by rw[Gc];rfl
   have e2:((pre.length:Int)+1)=((pre++[x]).length:Int):=by simp
   rw[Ya];simp only[Zmp,ZR hk,Cq1,hg,Bq0];rw[Jj Vg];cases hm:(Zq mine x).getD false
   ·simp only[Cq0];have:=Zsk hF mine rest (pre++[x]) (done++[x]) tk G (by simp[hd]) h Vg (by simp;omega) Vg;rw[<-e1]at this;have e3:done++x::rest=(done++[x])++rest:=by rw[Gc];rfl
    rw[e3];have e4:((pre.length+1:Nat):Int)=((pre++[x]).length:Int):=by simp
    rw[e4,this,rnm,hm];simp
   ·simp only[Cq1];have hlf:=Zdk (m:=tk) Vg;rw[ZI0 hF h Vg,Bq0,hg2,Bq0];simp only[hs];have:=Zsk hF mine rest (pre++[x]) (done++[Jm (ZO tk)]) (Yk tk (Jm (ZO tk)) true) G (by simp[hd]) (h.Yk _) Vg (by simp;omega) Vg;rw[<-e1]at this;have e4:((pre.length+1:Nat):Int)=((pre++[x]).length:Int):=by simp
    rw[e4,this,rnm,hm];simp
def ZHl{F:Nat}(hF:10000000000000000000<=F)(names:U Y)(mine tk:MB)(h:JV tk)(hl:tk.length+names.length<=800000)(hn:names.length<=100000):loop F (Zmp F names mine) (0,tk,names)=some (rnm mine tk names):=by
 have:=Zsk hF mine names [] [] tk F rfl h hl (by simpa using hn) Vg
 simpa using this
def bdP(x:Y)(mine:MB)(fr:Part->U Y):BF MB:=fun tk env names p=>
 if(Zq env.dropLast x).isSome\/x∉fr p then(tk,names) else rnm mine tk names
def RP(x:Y)(e:Ze)(c:U NM)(env:NM):Prop:=∃c' inn,c=c'++[[(x,e)]]/\env=inn++[(x,e)]/\(Zh3 c' x).isSome=(Zq inn x).isSome
def ZI4{F:Nat}(hF:10000000000000000000<=F){x:Y}{e:Ze}{mine tk m:MB}{c:U NM}{env:NM}{names:U Y}(hc:RP x e c env)(hcl:c.length+1<F)(h:JV tk)(hl:tk.length+names.length<=800000)(hn:names.length<=100000):
 ZfF F x mine tk c names (some m)=some (if(Zq env.dropLast x).isSome\/(Zq m x).getD false=false then(tk,names) else rnm mine tk names):=by
 obtain⟨c',inn,rfl,rfl,hx⟩:=hc;have ho:=ZC1 x [(x,e)] c' F (by simp only[K2,List.length_singleton]at hcl;omega);have hm0:(Zq [(x,e)] x).isSome=true:=by unfold Zq Z8;rw[if_pos rfl];rfl
 rw[hm0,Bool.and_true,hx]at ho;unfold ZfF;rw[ho,Bq0,List.dropLast_concat];cases hi:(Zq inn x).isSome
 ·simp only[GA,QP,Cq0,Bq0];cases hb:(Zq m x).getD false
  ·simp
  ·have ha:app 16 ([]:U Y) names=some ([]++names):=ZkM (by
    have:(2*(([]:U Y).length+names.length)+1000)*16<=201000*16:=Gz _ (by simp;omega);exact KB this (by decide))
   have h77:ZAE names=some names:=by unfold ZAE;rw[ha];rfl
   rw[QP,Cq0,h77,Bq0,ZHl hF names mine tk h hl hn,if_neg (by simp)]
 ·simp
def ZBR{x:Y}{e:Ze}{c:U NM}{env:NM}(h:RP x e c env){l to:U Y}(hl:l.length=to.length){m:NM}(hm:∀y,Zq m y=Zq ((l.zip to).map fun p=>(p.1,Uh p.2)).reverse y):RP x e (m::c) (ext env l to):=by
 obtain⟨c',inn,rfl,rfl,hx⟩:=h;refine⟨m::c',((l.zip to).map fun p=>(p.1,Uh p.2)).reverse++inn,rfl,by unfold ext;rw[Gc],?_⟩;rw[UJ,<-hm x];unfold Zh3;cases Zq m x with
 | some v=>rfl
 | none=>exact hx
def ZGw{F:Nat}(hF:10000000000000000000<=F){x:Y}{e:Ze}{mine tk m:MB}{c:U NM}{env:NM}{names:U Y}(hc:RP x e c env)(hcl:c.length+1<F)(h:JV tk)(hl:tk.length+names.length<=800000)(hn:names.length<=100000)
 {r:MB×U Y} (hr:(if(Zq env.dropLast x).isSome\/(Zq m x).getD false=false then(tk,names) else rnm mine tk names)=r):
 Za7 F (ZfF F x mine) tk c names (some m)=some (r.1,Zf7 (names.zip r.2) [])/\names.length=r.2.length/\JV r.1/\r.1.length<=tk.length+names.length:=by
 have key:names.length=r.2.length/\JV r.1/\r.1.length<=tk.length+names.length:=by
  rw[<-hr];split
  ·exact⟨rfl,h,Nat.le_add_right _ _⟩
  ·obtain⟨a,b,d⟩:=Zid mine names tk h hl;exact⟨a.symm,d,b⟩
 refine⟨?_,key⟩;unfold Za7;rw[ZI4 hF hc hcl h hl hn,Bq0,hr,ZBl hF _ _ key.1 hn];rfl
def JV.dec{m:MB}(h:JV m)(x:Y):(Zq m x).getD false=false↔x∉ZO m:=by
 rw[h.get x];simp
def Zuv:∀(m:MB)(y:Y),(ZO m).Nodup->Zer m y=m.filter fun p=>!decide (p.1=y)
 | [],y,_=>rfl
 | p::m,y,h=>by
   have hn:p.1∉ZO m/\(ZO m).Nodup:=GC.1 h;have ih:=Zuv m y hn.2;have e:Z8 (p::m) y=if p.1=y then some (0,p.2) else(Z8 m y).map fun q=>(q.1+1,q.2):=rfl
   unfold Zer at ih ⊢;rw[e];by_cases hp:p.1=y
   ·rw[if_pos hp,List.filter_cons,decide_eq_true hp];show m=_;simp only[QP,Bool.false_eq_true,if_false];rw[List.filter_eq_self.2];intro q hq;have:q.1≠y:=fun z=>hn.1 (by rw[hp,<-z];exact Gl (f:=(·.1)) hq)
    simp[this]
   ·rw[if_neg hp,List.filter_cons,decide_eq_false hp];simp only[GA,if_true];cases hm:Z8 m y with
    | none=>rw[hm]at ih;simp only[Option.map_none];rw[<-ih]
    | some q=>rw[hm]at ih;simp only[V2,List.eraseIdx_cons_succ];rw[<-ih]
def ZEq{F:Nat}(hF:10000000000000000000<=F)(names:U Y)(m:MB)(hn:names.length<=100000):loop F (ZeB names) (0,m)=some (names.foldl Zer m):=by
 refine Yt (body:=ZeB names) (fun(k:Nat)(m:MB)=>((k:Int),m)) names (fun _ _=>True) (fun rest m=>some (rest.foldl Zer m)) (F:=F) ?_ ?_ Vg m trivial
 ·intro m nx _;simp only[ZeB,Z6,Cq0];rfl
 ·intro k x rest m nx hx hk hg _ ih;simp only[ZeB,ZR hk,Cq1,hg,Bq0];rw[Jj Vg];exact ih _ trivial
def Zjt:∀(l:U Y)(m:MB),(ZO m).Nodup->l.foldl Zer m=m.filter fun p=>!decide (p.1∈l)
 | [],m,_=>(List.filter_eq_self.2 fun p _=>by simp).symm
 | y::l,m,h=>by
   rw[Gq,Zuv m y h,Zjt l _ ?_,List.filter_filter]
   ·congr 1;funext p;by_cases h1:p.1=y<;>by_cases h2:p.1∈l<;>simp[h1,h2]
   ·unfold ZO at h ⊢;exact h.sublist (List.filter_sublist.map _)
def frP:Part->U Y
 | .pr t=>ZO (YM (Jf (.pr t) []) [])
 | .cl c=>match c.qQ with
   | k::_=>(ZO (YM (Jf (.pr k) []) [])).filter fun s=>!decide (s∈Zv c.qG)
   | []=>[]
 | .ex _=>[]
def ZoW(p:Part):JV (YM (Jf p []) []):=Zk0 _ _ fun p hp=>by cases hp
def ZBm{x:Y}{mine tk m:MB}{env:NM}{names:U Y}{p:Part}(h:JV m)(hk:x∈ZO m↔x∈frP p):
 (if(Zq env.dropLast x).isSome\/(Zq m x).getD false=false then(tk,names) else rnm mine tk names)=bdP x mine frP tk env names p:=by
 have e:((Zq env.dropLast x).isSome=true\/(Zq m x).getD false=false)↔((Zq env.dropLast x).isSome=true\/x∉frP p):=by rw[h.dec x,hk]
 unfold bdP;by_cases hc:(Zq env.dropLast x).isSome=true\/(Zq m x).getD false=false
 ·rw[if_pos hc,if_pos (e.1 hc)]
 ·rw[if_neg hc,if_neg fun z=>hc (e.2 z)]
def ZmF(q:U (Y×Y))(y:Y):Zq (Zf7 q []) y=Zq (q.map fun p=>(p.1,Uh p.2)).reverse y:=by
 rw[Zha];cases Zq (q.map fun p=>(p.1,Uh p.2)).reverse y<;>simp[Zq,Z8]
def ZKr{F:Nat}(hF:10000000000000000000<=F)(x:Y)(e:Ze)(mine:MB):BE F IC (RP x e) (Za7 F (ZfF F x mine)) (fun t names=>ZbM F t names) (fun t=>Zbu F t) (bdP x mine frP) where
 mono:=fun k j tk h=>⟨h.1,by have:=h.2;omega⟩
 t:=fun tk c env B Bn bad t k hc hcl _ hs hn _ hl hI=>by
  obtain⟨h1,h2⟩:=hI;have hp:=Xk (.pr t);obtain⟨a,b,d,g⟩:=ZGw hF hc.r Vg h1 Vg Vg (ZBm (p:=.pr t) (ZoW (.pr t)) Iff.rfl) (mine:=mine) (names:=Q0 t.qK);refine⟨_,?_,ZvE hc b (ZBR hc.r b (ZmF _)),d,by omega⟩;show Za7 F (ZfF F x mine) tk c (Q0 t.qK) (Zbu F t)=_;rw[(Zbt hF t hs hn).1];exact a
 r:=fun tk c env B Bn bad p k hc hcl _ hs hn hf hl hI=>by
  obtain⟨h1,h2⟩:=hI;have hp:=Xk (.cl p);obtain⟨_,_,q,hk⟩:=Ud (Kx.1 hs _ (Y4 _));have hq:q∈p.qQ:=by rw[hk];simp
  have hsq:(pre (.pr q)).all Uo=true:=Kx.2 fun y hy=>Kx.1 hs y (YL (Xe hq) hy)
  have hql:=YI (Xe hq);have hnd:=(Ut (Jf (.pr q) []) [] List.nodup_nil).1
  have hAT:JV ((Zv p.qG).foldl Zer (YM (Jf (.pr q) []) [])):=by
   rw[Zjt _ _ hnd];intro z hz;exact ZoW (.pr q) z (GP.1 hz).1
  have hkk:x∈ZO ((Zv p.qG).foldl Zer (YM (Jf (.pr q) []) []))↔x∈frP (.cl p):=by
   rw[Zjt _ _ hnd];simp only[frP,hk];unfold ZO;rw[List.filter_map];rfl
  obtain⟨a,b,d,g⟩:=ZGw hF hc.r Vg h1 Vg Vg (ZBm (p:=.cl p) hAT hkk) (mine:=mine) (names:=Zv p.qG);refine⟨_,?_,ZvE hc b (ZBR hc.r b (ZmF _)),d,by omega⟩;show Za7 F (ZfF F x mine) tk c (Zv p.qG) (ZbM F p (Zv p.qG))=_
  have:ZbM F p (Zv p.qG)=some ((Zv p.qG).foldl Zer (YM (Jf (.pr q) []) [])):=by
   unfold ZbM;rw[hk];show((Zbu F q).bind fun m=>loop F (ZeB (Zv p.qG)) (0,m))=_;rw[(Zbt hF q hsq Vg).1,Bq0,ZEq hF _ _ Vg]
  rw[this];exact a
def Zhd(x:Y)(e:Ze):Y->Z:=fun y=>decide (y=x) && !(e.op==2)
def Zff(x:Y)(e:Ze)(y:Y):Zq [(x,e)] y=if y=x then some e else none:=by
 unfold Zq Z8;by_cases h:x=y
 ·rw[if_pos h,if_pos h.symm];rfl
 ·rw[if_neg h,if_neg fun z=>h z.symm];rfl
theorem ZKp{x:ByteArray}{e:Ze}(he:(pre (.ex e)).length<=60):CE (RP x e) [[(x,e)]] [(x,e)] [x] [] (Zhd x e):=by
 refine⟨fun y=>?_,fun y v hv=>?_,fun y=>?_,fun y=>?_,fun y hy=>(by cases hy),⟨[],[],rfl,rfl,rfl⟩⟩
 ·unfold Zh3;cases Zq [(x,e)] y<;>rfl
 ·rw[Zff]at hv;split at hv
  ·cases hv;exact he
  ·cases hv
 ·rw[Zff,List.mem_singleton];split<;>simp[*]
 ·rw[Zff];unfold Zhd;by_cases h:y=x
  ·rw[if_pos h,decide_eq_true h];simp
  ·rw[if_neg h,decide_eq_false h];simp
def ZHq(x:Y)(e:Ze)(mine tk:MB)(t:Term):Term:=(Wt (bdP x mine frP) tk [(x,e)] t).2
def ZLj{F:Nat}(hF:10000000000000000000<=F)(x:Y){e:Ze}(mine tk:MB)(t:Term)(hs:(pre (.pr t)).all Uo=true)(hn:(pre (.pr t)).length<=60)(he:(pre (.ex e)).length<=60)(h:JV tk)(hl:tk.length<=80000):
 ∃ws,Zkp F (Za7 F (ZfF F x mine)) (fun t names=>ZbM F t names) (fun t=>Zbu F t) (([],tk),[[(x,e)]],t)=some (bif bT (Zhd x e) t then .ZX 7 else .ok (ws,ZHq x e mine tk t)):=
 ⟨_,(ZxY hF (ZKr hF x e mine) 60 t hs hn Vh F Vg [] tk [[(x,e)]] [(x,e)] [x] [] (Zhd x e) 0 (ZKp he) (by simp only[KK,GQ];omega) (by simp only[KK,GQ];omega) ⟨h,by omega⟩).1⟩
inductive Al{α β:Type}(R:α->β->Prop):List α->List β->Prop
 | nil:Al R [] []
 | cons {a:α} {b:β} {l:List α} {m:List β} (h:R a b) (t:Al R l m):Al R (a::l) (b::m)
def Al.len{α β:Type}{R:α->β->Prop}{l:U α}{m:U β}(h:Al R l m):m.length=l.length:=by
 induction h with
 | nil=>rfl
 | cons _ _ ih=>rw[KK,KK,ih]
def Al.right{α β:Type}{R:α->β->Prop}{l:U α}{m:U β}(h:Al R l m):∀y∈m,∃x∈l,R x y:=by
 induction h with
 | nil=>intro y hy;cases hy
 | cons h t ih=>
   intro y hy;rcases Kd.1 hy with rfl|hy
   ·exact⟨_,Gm,h⟩
   ·obtain⟨x,hx,hr⟩:=ih y hy;exact⟨x,Kf _ hx,hr⟩
def Al.flat{α β γ:Type}{R:α->β->Prop}{l:U α}{m:U β}{f:α->U γ}{g:β->U γ}(h:Al R l m)(e:∀x y,R x y->g y=f x):m.flatMap g=l.flatMap f:=by
 induction h with
 | nil=>rfl
 | cons h t ih=>rw[Ks,Ks,ih,e _ _ h]
abbrev ln(p:Part):Nat:=(pre p).length
def Zux(p:Part):ln p=((ZJ p).map ln).sum+1:=by
 unfold ln;rw[pre_eq,KK,List.length_flatMap]
def Zuw(t:Term):ln (.pr t)=(t.args.map fun a=>ln (.ex a)).sum+(t.qK.map fun a=>ln (.cl a)).sum+(t.qQ.map fun a=>ln (.pr a)).sum+1:=by
 rw[Zux];simp only[ZJ,List.map_append,Gt,List.sum_append]
 rfl
def Zl7(c:Za):ln (.cl c)=(c.qK.map fun a=>ln (.cl a)).sum+(c.qQ.map fun a=>ln (.pr a)).sum+1:=by
 rw[Zux];simp only[ZJ,List.map_append,Gt,List.sum_append]
 rfl
def Q8{f:Part->Z}(p:Part):(pre p).all f=true↔f p=true/\∀k∈ZJ p,(pre k).all f=true:=by
 rw[pre_eq,List.all_cons,Ba0,Kx];refine and_congr Iff.rfl ⟨fun h k hk=>Kx.2 fun x hx=>h x (Q3.2 ⟨k,hk,hx⟩),fun h x hx=>?_⟩;obtain⟨k,hk,hx⟩:=Q3.1 hx;exact Kx.1 (h k hk) x hx
def Zun:∀(l:U Y)(h:Y->Z),nWb h l=true↔(∀x∈l,Xi x=true/\h x=false)/\l.Nodup
 | [],h=>by simp[nWb]
 | x::l,h=>by
   rw[nWb,Ba0,Ba0,Zun l,GC,Bool.not_eq_true']
   constructor
   ·rintro⟨⟨a,b⟩,c,d⟩;refine⟨fun y hy=>?_,fun hm=>?_,d⟩
    ·rcases Kd.1 hy with rfl|hy
     ·exact⟨a,b⟩
     ·have:=c y hy;rw[JT]at this;exact⟨this.1,this.2.1⟩
    ·have:=(c x hm).2;rw[JT]at this;simp at this
   ·rintro⟨a,b,c⟩;refine⟨a x (by simp),fun y hy=>?_,c⟩;obtain⟨p,q⟩:=a y (Kf _ hy);refine⟨p,?_⟩;rw[JT,decide_eq_false_iff_not];exact⟨q,fun e=>b (e▸hy)⟩
def Zy4:∀(js:U YJ)(ht hn:Y->Z),jW ht hn js=true↔(∀m∈js,Xi m.qJ=true/\ht m.qJ=false/\m.names.length<=3/\∀x∈m.names,Xi x=true/\hn x=false)/\(js.map (·.qJ)).Nodup/\(Zv js).Nodup
 | [],ht,hn=>by simp[jW,Zv]
 | m::js,ht,hn=>by
   have e:Zv (m::js)=m.names++Zv js:=rfl;rw[jW,Ba0,Ba0,Ba0,Ba0,Zun,Zy4 js,Bool.not_eq_true',decide_eq_true_iff,Gd,GC,e,List.nodup_append]
   constructor
   ·rintro⟨⟨⟨a1,a2⟩,a3⟩,⟨b1,b2⟩,c1,c2,c3⟩;refine⟨fun y hy=>?_,⟨fun hm=>?_,c2⟩,b2,c3,fun x hx y hy exy=>?_⟩
    ·rcases Kd.1 hy with rfl|hy
     ·exact⟨a1,a2,a3,b1⟩
     ·obtain⟨d1,d2,d3,d4⟩:=c1 y hy;rw[JT]at d2;exact⟨d1,d2.1,d3,fun x hx=>by have:=d4 x hx;rw[JT]at this;exact⟨this.1,this.2.1⟩⟩
    ·obtain⟨y,hy,ey⟩:=G5.1 hm;have:=(c1 y hy).2.1;rw[JT,decide_eq_false_iff_not]at this;exact this.2 ey
    ·subst exy;obtain⟨z,hz,hxz⟩:=Q3.1 hy;have:=((c1 z hz).2.2.2 x hxz).2;rw[JT,decide_eq_false_iff_not]at this;exact this.2 hx
   ·rintro⟨a,⟨b1,b2⟩,c1,c2,c3⟩;obtain⟨d1,d2,d3,d4⟩:=a m (by simp);refine⟨⟨⟨d1,d2⟩,d3⟩,⟨d4,c1⟩,fun y hy=>?_,b2,c2⟩;obtain⟨e1,e2,e3,e4⟩:=a y (Kf _ hy);refine⟨e1,?_,e3,fun x hx=>?_⟩
    ·rw[JT,decide_eq_false_iff_not];exact⟨e2,fun z=>b1 (G5.2 ⟨y,hy,z⟩)⟩
    ·rw[JT,decide_eq_false_iff_not];exact⟨(e4 x hx).1,(e4 x hx).2,fun z=>c3 x z x (Q3.2 ⟨y,hy,hx⟩) rfl⟩
def ZyM:Xi E0=false:=rfl
def ZCh{l to:U Y}:∀(h:l.Nodup){i:Nat}{x y:Y},l[i]? =some x->to[i]? =some y->Zq ((l.zip to).map fun p=>(p.1,Uh p.2)).reverse x=some (Uh y):=by
 induction l generalizing to with
 | nil=>intro _ i x y h;cases h
 | cons a l ih=>
   intro hn i x y hx hy;rw[GC]at hn;cases to with
   | nil=>cases hy
   | cons b to=>
     rw[GY,Gd,List.reverse_cons,UJ];cases i with
     | zero=>
       simp only[List.getElem?_cons_zero,J1]at hx hy;subst hx hy
       have:Zq ((l.zip to).map fun p=>(p.1,Uh p.2)).reverse a=none:=by
        cases e:Zq ((l.zip to).map fun p=>(p.1,Uh p.2)).reverse a with
        | none=>rfl
        | some v=>
          have:=ZaW e;rw[List.mem_reverse,G5]at this;obtain⟨q,hq,e2⟩:=this;have h1:=(List.of_mem_zip hq).1;cases e2;exact absurd h1 hn.1
       rw[this,Zdh,if_pos rfl]
     | succ i=>
       simp only[List.getElem?_cons_succ]at hx hy;rw[ih hn.2 hx hy]
def Zm8{env:NM}{l to:U Y}(hn:l.Nodup){i:Nat}{x y:Y}(hx:l[i]? =some x)(hy:to[i]? =some y):Zq (ext env l to) x=some (Uh y)/\JX (ext env l to) x=y:=by
 have g:Zq (ext env l to) x=some (Uh y):=by
  unfold ext;rw[UJ,ZCh hn hx hy]
 refine⟨g,?_⟩;unfold JX;rw[g];rfl
def Zt1{env:NM}{l to:U Y}(hn:l.Nodup)(hl:l.length=to.length):l.map (JX (ext env l to))=to:=by
 refine GO fun i=>?_
 rw[GN];by_cases hi:i<l.length
 ·have hx:=J0 hi;have hy:=J0 (show i<to.length by omega);rw[hx,hy];exact congrArg some (Zm8 hn hx hy).2
 ·rw[Jx Vg,Jx Vg];rfl
def ZCv{env:NM}{l to:U Y}(hn:l.Nodup)(ht:to.Nodup)(hl:l.length=to.length):∀x∈l,∀y∈l,JX (ext env l to) x=JX (ext env l to) y->x=y:=by
 intro x hx y hy e;obtain⟨i,hi,ei⟩:=List.getElem_of_mem hx;obtain⟨j,hj,ej⟩:=List.getElem_of_mem hy;have a:=(Zm8 (env:=env) (to:=to) hn (i:=i) (x:=x) (y:=to[i]'Vg) (by rw[J0 hi,ei]) (J0 _)).2;have b:=(Zm8 (env:=env) (to:=to) hn (i:=j) (x:=y) (y:=to[j]'Vg) (by rw[J0 hj,ej]) (J0 _)).2;rw[a,b]at e;have:=(List.getElem_inj ht).1 e;subst this;rw[<-ei,<-ej]
def nt(e:Evt):O Y:=if e.1∈e.2 then none else some e.1
def fv(p:Part)(B:U Y):U Y:=(Jf p B).filterMap nt
def fvN(B l:U Y):U Y:=l.filter fun s=>!decide (s∈B)
def ZjV(B:U Y):∀l:U Y,(l.map fun s=>((s,B):Evt)).filterMap nt=fvN B l
 | []=>rfl
 | x::l=>by
   have ih:=ZjV B l;unfold fvN at ih ⊢;rw[Gd,List.filterMap_cons,List.filter_cons,ih];unfold nt;by_cases h:x∈B
   ·simp[h]
   ·simp[h]
def Zfz{α:Type}(f:α->U Evt):∀l:U α,(l.flatMap f).filterMap nt=l.flatMap fun a=>(f a).filterMap nt
 | []=>rfl
 | x::l=>by rw[Ks,Ks,List.filterMap_append,Zfz f l]
def Zz7(t:Term)(B:U Y):fv (.pr t) B=(if t.qJ=E0 then [] else fvN B [t.qJ])++fvN B (t.args.flatMap Qj)++(t.qK.flatMap (fun c=>fv (.cl c) (bnd t B))++t.qQ.flatMap (fun k=>fv (.pr k) (bnd t B))):=by
 unfold fv;rw[Zoe,List.filterMap_append,List.filterMap_append,List.filterMap_append,Zfz,Zfz,ZjV];by_cases h:t.qJ=E0
 ·rw[if_pos h,if_pos h];rfl
 ·rw[if_neg h,if_neg h,<-ZjV B [t.qJ]];rfl
def Zz8(c:Za)(B:U Y):fv (.cl c) B=c.qK.flatMap (fun d=>fv (.cl d) B)++c.qQ.flatMap (fun k=>fv (.pr k) (B++Zv c.qG)):=by
 unfold fv;rw[Zkv,List.filterMap_append,Zfz,Zfz]
def ZpI{e:Ze}(h2:e.op=2)(hk:e.qQ=[]):Qj e=[e.qJ]:=by rw[Zjj,h2,hk];rfl
def ZqP{e:Ze}(hs:KW e=true)(h2:e.op=2):e.qQ=[]:=by
 unfold KW at hs;rw[h2]at hs;simp only[Int.reduceBEq,Cq1,Cq0,Ba0,beq_iff_eq]at hs;exact G7 hs.2
def WsP.thread{σ α:Type}{P Q:σ->α->σ×α->Prop}{w:α->Nat}{I:Nat->σ->Prop}{s:σ}{l:U α}{q:σ×U α}(h:WsP P s l q)
 (hP:∀a∈l,∀s r,P s a r->∀k,I (k+w a) s->I k r.1/\Q s a r):∀k,I (k+(l.map w).sum) s->I k q.1/\WsP Q s l q:=by
 induction h with
 | nil=>intro k hk;exact⟨hk,.nil⟩
 | @cons s a l r q h t ih=>
   intro k hk;rw[Gd,List.sum_cons]at hk;obtain⟨a1,a2⟩:=hP a (by simp) s r h (k+(l.map w).sum) (by rw[show k+(l.map w).sum+w a=k+(w a+(l.map w).sum) by omega];exact hk);obtain⟨b1,b2⟩:=ih (fun x hx=>hP x (Kf _ hx)) k a1;exact⟨b1,.cons a2 b2⟩
def WsP.al{σ α:Type}{Q:σ->α->σ×α->Prop}{R:α->α->Prop}{s:σ}{l:U α}{q:σ×U α}(h:WsP Q s l q)(hr:∀s a r,Q s a r->R a r.2):Al R l q.2:=by
 induction h with
 | nil=>exact .nil
 | cons h t ih=>exact .cons (hr _ _ _ h) ih
def WsP.keys{α:Type}{Q:MB->α->MB×α->Prop}{s:MB}{l:U α}{q:MB×U α}(h:WsP Q s l q)(hK:∀s a r,Q s a r->∀x∈ZO s,x∈ZO r.1):∀x∈ZO s,x∈ZO q.1:=by
 induction h with
 | nil=>exact fun x hx=>hx
 | cons h t ih=>exact fun x hx=>ih x (hK _ _ _ h x hx)
def Zm9{α:Type}(f:α->Nat)(m:Nat):∀l:U α,(l.map fun a=>m*f a).sum=m*(l.map f).sum
 | []=>rfl
 | x::l=>by rw[Gd,Gd,List.sum_cons,List.sum_cons,Zm9 f m l,Nat.mul_add]
def ZFK{l:U Za}:(jns l).map mq=l.flatMap fun c=>c.qG.map mq:=by
 unfold jns;rw[List.map_flatMap]
def ZsF{js:U YJ}{env en:NM}:Zv (js.map (ZgC env en))=(Zv js).map (JX en):=by
 unfold Zv;rw[List.flatMap_map,List.map_flatMap];rfl
def vl(env:NM)(z:Y):Ze:=(Zq env z).getD (Uh z)
def ZxT(env:NM)(z:Y):JX env z=(vl env z).qJ:=by
 unfold JX vl;cases Zq env z<;>rfl
def Zvc{e:Ze}(hs:KW e=true)(h2:e.op=2):e=Uh e.qJ:=by
 have hk:=ZqP hs h2;unfold KW at hs;rw[h2]at hs;simp only[Int.reduceBEq,Cq1,Cq0,Ba0,beq_iff_eq]at hs;obtain⟨op,n,tx,ks⟩:=e;simp only at h2 hk hs;unfold Uh;rw[h2,hk,hs.1.2]
def ZqQ{env:NM}{e:Ze}(hs:KW e=true)(h2:e.op=2):exW env e=vl env e.qJ:=by
 have hn:=Zvc hs h2;rw[Zoc,h2];show(Zq env e.qJ).getD e=(Zq env e.qJ).getD (Uh e.qJ);rw[<-hn]
def ZqR{env:NM}{e:Ze}(h2:e.op≠2):exW env e=.mk e.op e.n e.qJ (e.qQ.map (exW env)):=by
 have:(e.op==2)=false:=by simpa using h2
 rw[Zoc,this];rfl
def Zat(z:Y):Qj (Uh z)=[z]:=ZpI rfl rfl
def ZpJ{e:Ze}(h2:e.op≠2):Qj e=e.qQ.flatMap Qj:=by
 have:(e.op==2)=false:=by simpa using h2
 rw[Zjj,this];rfl
def ZAW{P:Ze->Prop}(h:∀e,(pre (.ex e)).all Uo=true->(∀k∈e.qQ,P k)->P e):∀e,(pre (.ex e)).all Uo=true->P e:=by
 have:∀n e,ln (.ex e)<=n->(pre (.ex e)).all Uo=true->P e:=by
  intro n
  induction n with
  | zero=>intro e h;have:=Xk (.ex e);unfold ln at h;omega
  | succ n ih=>intro e hn hs;exact h e hs fun k hk=>ih k (by have:=YI (Qz hk);unfold ln at hn ⊢;omega) (((Q8 _).1 hs).2 _ (Qz hk))
 exact fun e=>this _ e Vh
def Zuh(env:NM)(y:Y):∀e,(pre (.ex e)).all Uo=true->(y∈Qj (exW env e)↔∃z∈Qj e,y∈Qj (vl env z)):=ZAW fun e hs ih=>by
 have hsE:KW e=true:=((Q8 _).1 hs).1;by_cases h2:e.op=2
 ·rw[ZqQ hsE h2,ZpI h2 (ZqP hsE h2)];simp
 ·rw[ZqR h2,ZpJ (e:=.mk e.op e.n e.qJ _) h2,ZpJ h2];simp only[List.flatMap_map,Q3]
  constructor
  ·rintro⟨k,hk,hy⟩;obtain⟨z,hz,hv⟩:=(ih k hk).1 hy;exact⟨z,⟨k,hk,hz⟩,hv⟩
  ·rintro⟨z,⟨k,hk,hz⟩,hv⟩;exact⟨k,hk,(ih k hk).2 ⟨z,hz,hv⟩⟩
def ZrZ{env:NM}{l to:U Y}(hl:l.length=to.length){z:Y}(hz:z∉l):vl (ext env l to) z=vl env z:=by
 rcases ext_get hl env z with⟨h,_⟩|⟨_,g⟩
 ·exact absurd h hz
 ·unfold vl;rw[g]
def ZKW{env:NM}{l to:U Y}(hn:l.Nodup){i:Nat}{x y:Y}(hx:l[i]? =some x)(hy:to[i]? =some y):vl (ext env l to) x=Uh y:=by
 unfold vl;rw[(Zm8 hn hx hy).1];rfl
def idx{l to:U Y}(hl:l.length=to.length){z:Y}(hz:z∈l):∃(i:Nat) (y:Y),l[i]? =some z/\to[i]? =some y/\y∈to:=by
 obtain⟨i,hi,e⟩:=List.getElem_of_mem hz;exact⟨i,to[i]'Vg,by rw[J0 hi,e],J0 _,GK _⟩
def ZFf{env:NM}{l to:U Y}(hn:l.Nodup)(hl:l.length=to.length){z:Y}(hz:z∈l):∃y∈to,vl (ext env l to) z=Uh y:=by
 obtain⟨i,y,a,b,c⟩:=idx hl hz;exact⟨y,c,ZKW hn a b⟩
def ZkX(p:Part):Lo p↔Loc p/\∀k∈ZJ p,Lo k:=by
 refine⟨fun h=>⟨h.loc,fun k hk=>h.kid hk⟩,fun⟨h1,h2⟩ x hx=>?_⟩;rw[pre_eq]at hx;rcases Kd.1 hx with rfl|hx
 ·exact h1
 ·obtain⟨k,hk,hx⟩:=Q3.1 hx;exact h2 k hk x hx
def Zb3{α β:Type}{R:α->β->Prop}{l:U α}{m:U β}{f:α->Nat}{g:β->Nat}(h:Al R l m)(e:∀x y,R x y->g y<=60*f x):(m.map g).sum<=60*(l.map f).sum:=by
 induction h with
 | nil=>exact K1 _
 | cons h t ih=>
   have:=e _ _ h;simp only[Gd,List.sum_cons];omega
def Zty{α β:Type}{R:α->β->Prop}{f:α->β}:∀{l:U α},(∀x∈l,R x (f x))->Al R l (l.map f)
 | [],_=>.nil
 | x::l,h=>.cons (h x (by simp)) (Zty fun y hy=>h y (Kf _ hy))
def EnL(env:NM):Prop:=∀z,z.size<=BB->ln (.ex (vl env z))<=60/\Lo (.ex (vl env z))
def ZBV{z:Y}(h:z.size<=BB):ln (.ex (Uh z))<=60/\Lo (.ex (Uh z)):=by
 refine⟨by have:=Zuc z;unfold ln;omega,(ZkX _).2 ⟨⟨h,Gv _⟩,fun k hk=>(by cases hk)⟩⟩
def EnL.JX{env:NM}(h:EnL env){z:Y}(hz:z.size<=BB):(JX env z).size<=BB:=by
 rw[ZxT];exact(h z hz).2.loc.1
def EnL.exp{env:NM}(h:EnL env):∀e,(pre (.ex e)).all Uo=true->Lo (.ex e)->ln (.ex (exW env e))<=60*ln (.ex e)/\Lo (.ex (exW env e)):=ZAW fun e hs ih hlo=>by
 have hsE:KW e=true:=((Q8 _).1 hs).1;by_cases h2:e.op=2
 ·rw[ZqQ hsE h2];have:=h e.qJ hlo.loc.1;have hp:=Xk (.ex e);exact⟨by unfold ln at this ⊢;omega,this.2⟩
 ·have ih:∀k∈e.qQ,ln (.ex (exW env k))<=60*ln (.ex k)/\Lo (.ex (exW env k)):=fun k hk=>ih k hk (hlo.kid (Qz hk))
  rw[ZqR h2]
  constructor
  ·rw[Zux,Zux (.ex e)];have:=Zb3 (f:=fun a=>ln (.ex a)) (g:=fun a=>ln (.ex a)) (Zty (R:=fun a b=>ln (.ex b)<=60*ln (.ex a)) (f:=exW env) fun x hx=>(ih x hx).1) fun x y h=>h
   simp only[ZJ,Gt]at this ⊢;have e1:(ln∘Part.ex)=fun a=>ln (.ex a):=rfl
   have e2:(ln∘Part.ex∘exW env)=((fun a=>ln (.ex a))∘exW env):=rfl;rw[e2,e1];omega
  ·rw[ZkX];refine⟨⟨hlo.loc.1,by show(e.qQ.map _).length<=_;rw[Gf];exact hlo.loc.2⟩,fun k hk=>?_⟩;simp only[ZJ,Gt,G5]at hk;obtain⟨a,ha,rfl⟩:=hk;exact(ih a ha).2
def bl(t:Term):U Y:=bif t.op==4 then Q0 t.qK else []
def Ztn(t:Term)(B:U Y):bnd t B=B++bl t:=by
 unfold bnd bl;cases t.op==4
 ·show B=B++[];rw[Gn]
 ·rfl
def Zbn{B l:U Y}{z:Y}:z∈fvN B l↔z∈l/\z∉B:=by unfold fvN;rw[GP];simp
def Zus:∀(p:Part)(B:U Y)(z:Y),z∈fv p B↔z∈fv p []/\z∉B:=by
 refine KZ fun p ih=>?_
 intro B z
 have hx:∀(k:Part)(C D:U Y),k∈ZJ p->(z∈fv k (C++D)↔z∈fv k ([]++D)/\z∉C):=fun k C D hk=>by
  rw[ih k hk (C++D) z,ih k hk ([]++D) z,Ge,Q1]
  constructor
  ·rintro⟨a,b⟩;exact⟨⟨a,fun h=>b (.inr h)⟩,fun h=>b (.inl h)⟩
  ·rintro⟨⟨a,b⟩,c⟩;exact⟨a,fun h=>h.elim c b⟩
 have hex:∀{α:Type}(l:U α)(f:α->Part)(C D:U Y),(∀a∈l,f a∈ZJ p)->(z∈l.flatMap (fun a=>fv (f a) (C++D))↔z∈l.flatMap (fun a=>fv (f a) ([]++D))/\z∉C):=fun l f C D hf=>by
  rw[Q3,Q3]
  constructor
  ·rintro⟨a,ha,h⟩;obtain⟨h1,h2⟩:=(hx (f a) C D (hf a ha)).1 h;exact⟨⟨a,ha,h1⟩,h2⟩
  ·rintro⟨⟨a,ha,h1⟩,h2⟩;exact⟨a,ha,(hx (f a) C D (hf a ha)).2 ⟨h1,h2⟩⟩
 cases p with
 | ex e=>
   have hf:∀B,fv (.ex e) B=fvN B (Qj e):=fun B=>by unfold fv;rw[<-ZjV];unfold Jf;rfl
   rw[hf,hf,Zbn,Zbn];simp
 | pr t=>
   have h1:=hex t.qK Part.cl B (bl t) fun a ha=>QA ha
   have h2:=hex t.qQ Part.pr B (bl t) fun a ha=>Qa ha
   rw[Zz7,Zz7 t [],Ztn,Ztn];simp only[Q1,h1,h2];by_cases ht:t.qJ=E0
   ·simp only[ht,if_pos,G9,false_or,Zbn]
    constructor
    ·rintro(⟨a,b⟩|⟨a,b⟩|⟨a,b⟩)
     ·exact⟨.inl ⟨a,fun h=>by cases h⟩,b⟩
     ·exact⟨.inr (.inl a),b⟩
     ·exact⟨.inr (.inr a),b⟩
    ·rintro⟨⟨a,_⟩|a|a,b⟩
     ·exact .inl ⟨a,b⟩
     ·exact .inr (.inl ⟨a,b⟩)
     ·exact .inr (.inr ⟨a,b⟩)
   ·simp only[ht,if_false,Zbn]
    constructor
    ·rintro((⟨a,b⟩|⟨a,b⟩) | ⟨a,b⟩|⟨a,b⟩)
     ·exact⟨.inl (.inl ⟨a,fun h=>by cases h⟩),b⟩
     ·exact⟨.inl (.inr ⟨a,fun h=>by cases h⟩),b⟩
     ·exact⟨.inr (.inl a),b⟩
     ·exact⟨.inr (.inr a),b⟩
    ·rintro⟨(⟨a,_⟩|⟨a,_⟩) | a|a,b⟩
     ·exact .inl (.inl ⟨a,b⟩)
     ·exact .inl (.inr ⟨a,b⟩)
     ·exact .inr (.inl ⟨a,b⟩)
     ·exact .inr (.inr ⟨a,b⟩)
 | cl c=>
   have h1:=hex c.qK Part.cl B [] fun a ha=>Xn ha
   have h2:=hex c.qQ Part.pr B (Zv c.qG) fun a ha=>Xe ha
   simp only[Gn]at h1;rw[Zz8,Zz8 c []];simp only[Q1,h1,h2]
   constructor
   ·rintro(⟨a,b⟩|⟨a,b⟩)
    ·exact⟨.inl a,b⟩
    ·exact⟨.inr a,b⟩
   ·rintro⟨a|a,b⟩
    ·exact .inl ⟨a,b⟩
    ·exact .inr ⟨a,b⟩
def Wj(t:Term)(z:Y):z∈fv (.pr t) []↔((z=t.qJ/\t.qJ≠E0)\/∃a∈t.args,z∈Qj a)\/((∃c∈t.qK,z∈fv (.cl c) [])\/∃k∈t.qQ,z∈fv (.pr k) [])/\z∉bl t:=by
 rw[Zz7,Ztn,Ge];simp only[Q1,Q3,Zbn,Zus _ (bl t),G9,not_false_eq_true,and_true];have e1:(∃a∈t.qK,z∈fv (.cl a) []/\z∉bl t)↔(∃a∈t.qK,z∈fv (.cl a) [])/\z∉bl t:=⟨fun⟨a,b,c,d⟩=>⟨⟨a,b,c⟩,d⟩,fun⟨⟨a,b,c⟩,d⟩=>⟨a,b,c,d⟩⟩
 have e2:(∃a∈t.qQ,z∈fv (.pr a) []/\z∉bl t)↔(∃a∈t.qQ,z∈fv (.pr a) [])/\z∉bl t:=⟨fun⟨a,b,c,d⟩=>⟨⟨a,b,c⟩,d⟩,fun⟨⟨a,b,c⟩,d⟩=>⟨a,b,c,d⟩⟩
 have e3:(z∈if t.qJ=E0 then [] else fvN [] [t.qJ])↔z=t.qJ/\t.qJ≠E0:=by
  by_cases h:t.qJ=E0
  ·rw[if_pos h];simp[h]
  ·rw[if_neg h,Zbn];simp[h]
 rw[e1,e2,e3,or_and_right]
def KH(c:Za)(z:Y):z∈fv (.cl c) []↔(∃d∈c.qK,z∈fv (.cl d) [])\/(∃k∈c.qQ,z∈fv (.pr k) [])/\z∉Zv c.qG:=by
 rw[Zz8,Ge];simp only[Q1,Q3,Zus _ (Zv c.qG)];have e2:(∃a∈c.qQ,z∈fv (.pr a) []/\z∉Zv c.qG)↔(∃a∈c.qQ,z∈fv (.pr a) [])/\z∉Zv c.qG:=⟨fun⟨a,b,c,d⟩=>⟨⟨a,b,c⟩,d⟩,fun⟨⟨a,b,c⟩,d⟩=>⟨a,b,c,d⟩⟩
 rw[e2]
def strs:Part->U Y
 | .pr t=>[t.qJ]
 | .ex e=>[e.qJ]
 | .cl c=>c.qJ::c.qG.flatMap fun m=>m.qJ::m.names
def SK(K0:U Y)(p:Part):Prop:=∀q∈pre p,∀s∈strs q,s∈K0
def SK.kid{K0:U Y}{p k:Part}(h:SK K0 p)(hk:k∈ZJ p):SK K0 k:=fun q hq=>h q (YL hk hq)
def SK.self{K0:U Y}{p:Part}(h:SK K0 p):∀s∈strs p,s∈K0:=h p (Y4 p)
def Zyw{K0:U Y}{e:Ze}(h:SK K0 (.ex e)):∀z∈Qj e,z∈K0:=fun z hz=>by
 unfold Qj at hz;obtain⟨q,hq,hz⟩:=Q3.1 hz;refine h q hq z ?_;cases q with
 | ex e=>
   have hz:z∈(bif e.op==2 then [e.qJ] else []):=hz;cases h2:e.op==2<;>rw[h2]at hz
   ·cases hz
   ·exact hz
 | pr t=>cases hz
 | cl c=>cases hz
def ZGl{K0:U Y}:∀(p:Part),SK K0 p->∀z∈fv p [],z∈K0:=by
 refine KZ fun p ih h z hz=>?_
 cases p with
 | ex e=>
   have hf:fv (.ex e) []=fvN [] (Qj e):=by unfold fv;rw[<-ZjV];unfold Jf;rfl
   rw[hf,Zbn]at hz;exact Zyw h z hz.1
 | pr t=>
   rw[Wj]at hz;rcases hz with(⟨rfl,_⟩|⟨a,ha,hz⟩) | ⟨⟨c,hc,hz⟩|⟨k,hk,hz⟩,_⟩
   ·exact h.self _ (by simp[strs])
   ·exact Zyw (h.kid (WH ha)) z hz
   ·exact ih _ (QA hc) (h.kid (QA hc)) z hz
   ·exact ih _ (Qa hk) (h.kid (Qa hk)) z hz
 | cl c=>
   rw[KH]at hz;rcases hz with⟨d,hc,hz⟩|⟨⟨k,hk,hz⟩,_⟩
   ·exact ih _ (Xn hc) (h.kid (Xn hc)) z hz
   ·exact ih _ (Xe hk) (h.kid (Xe hk)) z hz
def ZCV:∀(p:Part)(c:Za),p=.cl c->∀sp∈X9 c,∃d,Part.cl d∈pre (.cl c)/\sp=(d.qJ,d.qK):=by
 refine KZ fun p ih c hp sp hsp=>?_
 subst hp;rw[UH]at hsp;cases h2:c.qV==2<;>rw[h2]at hsp
 ·cases hsp
 ·rcases Kd.1 hsp with rfl|hsp
  ·exact⟨c,Y4 _,rfl⟩
  ·obtain⟨d,hd,hsp⟩:=Q3.1 hsp;obtain⟨q,hq,e⟩:=ih _ (Xn hd) d rfl sp hsp;exact⟨q,YL (Xn hd) hq,e⟩
def ZJy{K0:U Y}{t:Term}(h:SK K0 (.pr t)):∀z∈Q0 t.qK,z∈K0:=fun z hz=>by
 rw[Zf1]at hz;have hz:=(Zut _ z).1 hz
 have hpl:∀sp∈t.qK.flatMap X9,∃d,Part.cl d∈pre (.pr t)/\sp=(d.qJ,d.qK):=fun sp hsp=>by
  obtain⟨c,hc,hsp⟩:=Q3.1 hsp;obtain⟨d,hd,e⟩:=ZCV _ c rfl sp hsp;exact⟨d,YL (QA hc) hd,e⟩
 have hjn:∀l:U Za,(∀c∈l,Part.cl c∈pre (.pr t))->∀q∈(jns l).map mq,q.1∈K0:=fun l hl q hq=>by
  obtain⟨m,hm,rfl⟩:=G5.1 hq;obtain⟨c,hc,hm⟩:=Q3.1 hm;exact h _ (hl c hc) _ (Kf _ (Q3.2 ⟨m,hm,Gm⟩))
 unfold txS at hz;rcases Q1.1 hz with hz|hz
 ·obtain⟨g,hg,rfl⟩:=G5.1 hz;rw[Zgu]at hg;obtain⟨sp,hsp,rfl⟩:=G5.1 hg;obtain⟨d,hd,e⟩:=hpl sp hsp;exact h _ hd _ (by rw[e];exact Gm)
 ·rw[KM]at hz;obtain⟨g,hg,hz⟩:=Q3.1 hz;obtain⟨sp,hsp,rfl⟩:=G5.1 hg;obtain⟨q,hq,rfl⟩:=G5.1 hz;rcases Kd.1 hsp with rfl|hsp
  ·exact hjn t.qK (fun c hc=>YL (QA hc) (Y4 _)) q hq
  ·obtain⟨d,hd,e⟩:=hpl sp hsp;refine hjn sp.2 (fun c hc=>?_) q hq;rw[e]at hc;exact ZaG (YL (Xn hc) (Y4 _)) hd
def Zc1{l to:U Y}(hl:l.length=to.length){y:Y}(hy:y∈to):∃n,(n,y)∈l.zip to:=by
 obtain⟨i,hi,rfl⟩:=List.getElem_of_mem hy;refine⟨l[i]'Vg,?_⟩;have:=GK (l:=l.zip to) (n:=i) (by rw[List.length_zip];omega);rw[List.getElem_zip]at this;exact this
def Zo2:∀(l:U Y),∀p∈l.zip l,p.2=p.1
 | [],p,h=>by cases h
 | x::l,p,h=>by
   rw[GY]at h;rcases Kd.1 h with rfl|h
   ·rfl
   ·exact Zo2 l p h
structure Nw(mine tk:MB)(l to:List ByteArray)(tk1:MB):Prop where
 len:l.length=to.length
 nd:to.Nodup
 pair:∀p∈l.zip to,p.2=p.1\/(p.2∉ZO tk/\Xi p.2=true)
 inn:∀y∈to,y∈ZO tk1
 up:∀y∈ZO tk,y∈ZO tk1
def Zsj(mine:MB):∀(l:U Y)(tk:MB),JV tk->tk.length+l.length<=800000->(∀n∈l,n∈ZO tk)->l.Nodup ->
 Nw mine tk l (rnm mine tk l).2 (rnm mine tk l).1/\∀p∈l.zip (rnm mine tk l).2,(Zq mine p.1).getD false=true->p.2∉ZO tk
 | [],tk,h,_,_,_=>⟨⟨rfl,List.nodup_nil,fun p hp=>(by cases hp),fun y hy=>(by cases hy),fun y hy=>hy⟩,fun p hp=>(by cases hp)⟩
 | n::l,tk,h,hl,hk,hn=>by
   simp only[KK]at hl;rw[GC]at hn;have hkl:∀m∈l,m∈ZO tk:=fun m hm=>hk m (Kf _ hm)
   have hnk:n∈ZO tk:=hk n (by simp);unfold rnm;split
   ·rename_i hm;have hkf:=ZjC (m:=tk) Vg;have hf:=ZhJ (l:=ZO tk) (by unfold ZO;rw[Gf];omega);obtain⟨a,b⟩:=Zsj mine l (Yk tk (Jm (ZO tk)) true) (h.Yk _) (by rw[Zdk Vg];omega) (fun m hm=>by rw[hkf];exact Gu _ (hkl m hm)) hn.2;refine⟨⟨by simp[a.len],?_,?_,?_,fun y hy=>a.up y (by rw[hkf];exact Gu _ hy)⟩,?_⟩
    ·rw[GC];refine⟨fun hx=>?_,a.nd⟩;obtain⟨m,hm⟩:=Zc1 a.len hx;rcases a.pair _ hm with e|⟨e,_⟩
     ·exact hf.2 ((show Jm (ZO tk)=m from e)▸hkl m (List.of_mem_zip hm).1)
     ·exact e (by rw[hkf];simp)
    ·intro p hp;rw[GY]at hp;rcases Kd.1 hp with rfl|hp
     ·exact .inr ⟨hf.2,hf.1⟩
     ·exact(a.pair p hp).imp id fun⟨c,d⟩=>⟨fun z=>c (by rw[hkf];exact Gu _ z),d⟩
    ·intro y hy;rcases Kd.1 hy with rfl|hy
     ·exact a.up _ (by rw[hkf];simp)
     ·exact a.inn y hy
    ·intro p hp hm';rw[GY]at hp;rcases Kd.1 hp with rfl|hp
     ·exact hf.2
     ·exact fun z=>b p hp hm' (by rw[hkf];exact Gu _ z)
   ·rename_i hm;obtain⟨a,b⟩:=Zsj mine l tk h Vg hkl hn.2;refine⟨⟨by simp[a.len],?_,?_,?_,a.up⟩,?_⟩
    ·rw[GC];refine⟨fun hx=>?_,a.nd⟩;obtain⟨m,hm⟩:=Zc1 a.len hx;rcases a.pair _ hm with e|⟨e,_⟩
     ·exact hn.1 ((show n=m from e)▸(List.of_mem_zip hm).1)
     ·exact e hnk
    ·intro p hp;rw[GY]at hp;rcases Kd.1 hp with rfl|hp
     ·exact .inl rfl
     ·exact a.pair p hp
    ·intro y hy;rcases Kd.1 hy with rfl|hy
     ·exact a.up _ hnk
     ·exact a.inn y hy
    ·intro p hp hm';rw[GY]at hp;rcases Kd.1 hp with rfl|hp
     ·exact absurd hm' hm
     ·exact b p hp hm'
def ZBn{x:Y}{mine tk s1:MB}{fr:Part->U Y}{env:NM}{l to:U Y}{p:Part}(h:bdP x mine fr tk env l p=(s1,to))(hA:JV tk)(hl:tk.length+l.length<=800000)(hk:∀n∈l,n∈ZO tk)(hn:l.Nodup)
 (hM:∀m,(Zq mine m).getD false=true->m∈ZO tk):Nw mine tk l to s1/\(JV s1/\s1.length<=tk.length+l.length)/\((Zq env.dropLast x).isSome=false->x∈fr p->∀m,(Zq mine m).getD false=true->m∉to):=by
 unfold bdP at h;split at h
 ·rename_i hc;cases h;refine⟨⟨rfl,hn,fun p hp=>.inl (Zo2 _ p hp),hk,fun y hy=>hy⟩,⟨hA,Nat.le_add_right _ _⟩,fun h1 h2=>?_⟩;rcases hc with hc|hc
  ·rw[h1]at hc;cases hc
  ·exact absurd h2 hc
 ·obtain⟨a,b⟩:=Zsj mine l tk hA hl hk hn;obtain⟨c,d,e⟩:=Zid mine l tk hA hl;rw[h]at a b c d e;refine⟨a,⟨e,d⟩,fun _ _ m hm hmt=>?_⟩;obtain⟨n,hz⟩:=Zc1 a.len hmt;rcases a.pair _ hz with q|⟨q,_⟩
  ·have q:m=n:=q;subst q;exact b _ hz hm (hM _ hm)
  ·exact q (hM _ hm)
structure ZdU(x:ByteArray)(e:Ze)(K0:List ByteArray)(s:MB)(env:NM):Prop where
 q:∃inn,env=inn++[(x,e)]/\∀z v,Zq inn z=some v->∃y,v=Uh y/\(y=z\/(y∉K0/\Xi y=true))/\y∈ZO s
variable{x:Y}{e:Ze}{K0:U Y}{mine:MB}
def ZdU.mono{s s1:MB}{env:NM}(h:ZdU x e K0 s env)(hs:∀y∈ZO s,y∈ZO s1):ZdU x e K0 s1 env:=by
 obtain⟨inn,a,b⟩:=h.q;exact⟨inn,a,fun z v hv=>by obtain⟨y,c,d,f⟩:=b z v hv;exact⟨y,c,d,hs y f⟩⟩
def ZdU.bind{s s1:MB}{env:NM}(h:ZdU x e K0 s env){l to:U Y}(hN:Nw mine s l to s1)(hK:∀y∈K0,y∈ZO s):ZdU x e K0 s1 (ext env l to):=by
 obtain⟨inn,a,b⟩:=(h.mono hN.up).q;refine⟨((l.zip to).map fun p=>(p.1,Uh p.2)).reverse++inn,by rw[a];unfold ext;rw[Gc],fun z v hv=>?_⟩;rw[UJ]at hv;cases hz:Zq ((l.zip to).map fun p=>(p.1,Uh p.2)).reverse z with
 | none=>rw[hz]at hv;exact b z v hv
 | some v'=>
   rw[hz]at hv;cases hv;have:=ZaW hz;rw[List.mem_reverse,G5]at this;obtain⟨p,hp,e2⟩:=this;obtain⟨rfl,rfl⟩:=Prod.mk.inj e2;refine⟨p.2,rfl,?_,hN.inn _ (List.of_mem_zip hp).2⟩;exact(hN.pair p hp).imp id fun⟨c,d⟩=>⟨fun z=>c (hK _ z),d⟩
def ZiM{inn:NM}(z:Y):vl (inn++[(x,e)]) z=match Zq inn z with|some v=>v|none=>if z=x then e else Uh z:=by
 unfold vl;rw[UJ];cases Zq inn z with
 | some v=>rfl
 | none=>
   show(Zq [(x,e)] z).getD (Uh z)=if z=x then e else Uh z
   rw[Zff];by_cases h:z=x
   ·rw[if_pos h,if_pos h];rfl
   ·rw[if_neg h,if_neg h];rfl
def ZdU.cap{s s1:MB}{env:NM}(h:ZdU x e K0 s env){l to:U Y}(hN:Nw mine s l to s1)(hM:∀m,m∈Qj e↔(Zq mine m).getD false=true)(hMK:∀m∈Qj e,m∈K0){fr:Prop}(hEM:(Zq env.dropLast x).isSome=false->fr->∀m,(Zq mine m).getD false=true->m∉to)
 (hlK:∀n∈l,n∈K0) (hK:∀y∈K0,y∈ZO s) {z:Y} (hz:z∉l) (hzK:z∈K0) (hxf:z=x->fr):∀m∈Qj (vl env z),m∉to:=by
 obtain⟨inn,rfl,b⟩:=h.q;rw[List.dropLast_concat]at hEM;intro m hm hmt;rw[ZiM]at hm;obtain⟨n,hn⟩:=Zc1 hN.len hmt;have hnl:n∈l:=(List.of_mem_zip hn).1;cases hi:Zq inn z with
 | some v=>
   rw[hi]at hm;obtain⟨y,rfl,c,d⟩:=b z v hi;have hm:m∈Qj (Uh y):=hm;rw[Zat,Q2]at hm;subst hm;rcases hN.pair _ hn with q|⟨q,_⟩
   ·have q:m=n:=q;subst q;rcases c with rfl|⟨c,_⟩
    ·exact hz hnl
    ·exact c (hlK _ hnl)
   ·exact q d
 | none=>
   rw[hi]at hm;by_cases hx:z=x
   ·subst hx;have hm:m∈Qj (if z=z then e else Uh z):=hm;rw[if_pos rfl]at hm;exact hEM (by rw[hi];rfl) (hxf rfl) m ((hM m).1 hm) hmt
   ·have hm:m∈Qj (if z=x then e else Uh z):=hm;rw[if_neg hx,Zat,Q2]at hm;subst hm;rcases hN.pair _ hn with q|⟨q,_⟩
    ·have q:m=n:=q;subst q;exact hz hnl
    ·exact q (hK _ hzK)
def ZdU.Uh{s:MB}{env:NM}(h:ZdU x e K0 s env)(hs:KW e=true){z:Y}(hz:Xi z=true)(h2:(vl env z).op=2):vl env z=Go.Proofs.YtbnepjakjmnadaaGreat.Uh (JX env z)/\Xi (JX env z)=true:=by
 rw[ZxT];obtain⟨inn,rfl,b⟩:=h.q;rw[ZiM]at h2 ⊢;cases hi:Zq inn z with
 | some v=>
   obtain⟨y,rfl,c,d⟩:=b z v hi;refine⟨rfl,?_⟩;show Xi y=true;rcases c with rfl|⟨_,c⟩
   ·exact hz
   ·exact c
 | none=>
   rw[hi]at h2;have h2:(if z=x then e else Go.Proofs.YtbnepjakjmnadaaGreat.Uh z).op=2:=h2;show(if z=x then e else Go.Proofs.YtbnepjakjmnadaaGreat.Uh z)=Go.Proofs.YtbnepjakjmnadaaGreat.Uh (if z=x then e else Go.Proofs.YtbnepjakjmnadaaGreat.Uh z).qJ/\Xi (if z=x then e else Go.Proofs.YtbnepjakjmnadaaGreat.Uh z).qJ=true;by_cases hx:z=x
   ·rw[if_pos hx]at h2 ⊢;refine⟨Zvc hs h2,?_⟩;unfold KW at hs;rw[h2]at hs;simp only[Int.reduceBEq,Cq1,Cq0,Ba0,beq_iff_eq]at hs;exact hs.1.1
   ·rw[if_neg hx];exact⟨rfl,hz⟩
def ZdU.enl{s:MB}{env:NM}(h:ZdU x e K0 s env)(h60:ln (.ex e)<=60)(hl:Lo (.ex e)):EnL env:=fun z hz=>by
 obtain⟨inn,rfl,b⟩:=h.q;rw[ZiM];cases hi:Zq inn z with
 | some v=>
   obtain⟨y,rfl,c,d⟩:=b z v hi;refine ZBV ?_;rcases c with rfl|⟨_,c⟩
   ·exact hz
   ·have:=Zjm c;unfold BB;omega
 | none=>
   show ln (.ex (if z=x then e else Go.Proofs.YtbnepjakjmnadaaGreat.Uh z))<=60/\Lo (.ex (if z=x then e else Go.Proofs.YtbnepjakjmnadaaGreat.Uh z));by_cases hx:z=x
   ·rw[if_pos hx];exact⟨h60,hl⟩
   ·rw[if_neg hx];exact ZBV hz
structure NH(K0:List ByteArray)(p:Part):Prop where
 Uo:(pre p).all Uo=true
 agr:(pre p).all (ZlF AgW)=true
 lo:Lo p
 le:ln p<=60
 sk:SK K0 p
def NH.kid{p k:Part}(h:NH K0 p)(hk:k∈ZJ p):NH K0 k:=⟨((Q8 _).1 h.Uo).2 _ hk,((Q8 _).1 h.agr).2 _ hk,h.lo.kid hk,by have:=YI hk;have:=h.le;unfold ln at *;omega,h.sk.kid hk⟩
structure Zxm(env:NM)(t u:Term):Prop where
 len:ln (.pr u)<=60*ln (.pr t)
 lo:Lo (.pr u)
 fr:∀y,y∈fv (.pr u) []↔∃z∈fv (.pr t) [],y∈Qj (vl env z)
structure ZtK(env:NM)(c d:Za):Prop where
 len:ln (.cl d)<=60*ln (.cl c)
 lo:Lo (.cl d)
 fr:∀y,y∈fv (.cl d) []↔∃z∈fv (.cl c) [],y∈Qj (vl env z)
 jq:d.qG.map mq=c.qG.map fun m=>(JX env m.qJ,m.names.length)
 pl:(X9 d).map sg=(X9 c).map fun sp=>rnS (JX env) (sg sp)
def Al.ex{α β:Type}{R:α->β->Prop}{l:U α}{m:U β}{P:α->Prop}{Q:β->Prop}(h:Al R l m)(e:∀x y,R x y->(Q y↔P x)):(∃y∈m,Q y)↔∃x∈l,P x:=by
 induction h with
 | nil=>simp
 | cons h t ih=>simp[e _ _ h,ih]
def Zvp{bad:Y->Z}:∀{l:U Term},bTs bad l=false->∀t∈l,bT bad t=false
 | [],_,t,h=>by cases h
 | a::l,hb,t,h=>by
   rw[ZcE,JT]at hb;rcases Kd.1 h with rfl|h
   ·exact hb.1
   ·exact Zvp hb.2 t h
def Zvr{bad:Y->Z}:∀{l:U Za},bCs bad l=false->∀t∈l,bC bad t=false
 | [],_,t,h=>by cases h
 | a::l,hb,t,h=>by
   rw[ZkI,JT]at hb;rcases Kd.1 h with rfl|h
   ·exact hb.1
   ·exact Zvr hb.2 t h
def IM(x:Y)(e:Ze)(K0:U Y)(env:NM)(k:Nat)(s:MB):Prop:=IC k s/\(∀y∈K0,y∈ZO s)/\ZdU x e K0 s env
def IM.up{env:NM}{k j:Nat}{s s1:MB}(h:IM x e K0 env k s)(hs:∀y∈ZO s,y∈ZO s1)(hI:IC j s1):IM x e K0 env j s1:=⟨hI,fun y hy=>hs y (h.2.1 y hy),h.2.2.mono hs⟩
def MT(x:Y)(e:Ze)(K0:U Y)(s:MB)(env:NM)(t:Term)(r:MB×Term):Prop:=
 ∀k bad,NH K0 (.pr t)->IM x e K0 env (k+12000*ln (.pr t)) s->(∀z,(vl env z).op≠2->bad z=true)->bT bad t=false->IC k r.1/\(∀y∈ZO s,y∈ZO r.1)/\Zxm env t r.2
def MC(x:Y)(e:Ze)(K0:U Y)(s:MB)(env:NM)(c:Za)(r:MB×Za):Prop:=
 ∀k bad,NH K0 (.cl c)->IM x e K0 env (k+12000*ln (.cl c)) s->(∀z,(vl env z).op≠2->bad z=true)->bC bad c=false->IC k r.1/\(∀y∈ZO s,y∈ZO r.1)/\ZtK env c r.2
def ZeY{env:NM}{s:MB}{l:U Term}{q:MB×U Term}{bad:Y->Z}(h:WsP (fun s k r=>MT x e K0 s env k r) s l q)(hN:∀a∈l,NH K0 (.pr a))(hb:∀z,(vl env z).op≠2->bad z=true)(hbt:bTs bad l=false)(k:Nat)(hI:IM x e K0 env (k+12000*(l.map fun a=>ln (.pr a)).sum) s):
 IM x e K0 env k q.1/\(∀y∈ZO s,y∈ZO q.1)/\Al (Zxm env) l q.2:=by
 obtain⟨a,b⟩:=h.thread (Q:=fun s a r=>(∀y∈ZO s,y∈ZO r.1)/\Zxm env a r.2) (w:=fun a=>12000*ln (.pr a)) (I:=IM x e K0 env) (fun a ha s r hp k hIk=>by
  obtain⟨c,d,f⟩:=hp k bad (hN a ha) hIk hb (Zvp hbt a ha);exact⟨hIk.up d c,d,f⟩) k (by rw[Zm9];exact hI)
 exact⟨a,b.keys fun _ _ _ h=>h.1,b.al fun _ _ _ h=>h.2⟩
def Zpb{env:NM}{s:MB}{l:U Za}{q:MB×U Za}{bad:Y->Z}(h:WsP (fun s k r=>MC x e K0 s env k r) s l q)(hN:∀a∈l,NH K0 (.cl a))(hb:∀z,(vl env z).op≠2->bad z=true)(hbt:bCs bad l=false)(k:Nat)(hI:IM x e K0 env (k+12000*(l.map fun a=>ln (.cl a)).sum) s):
 IM x e K0 env k q.1/\(∀y∈ZO s,y∈ZO q.1)/\Al (ZtK env) l q.2:=by
 obtain⟨a,b⟩:=h.thread (Q:=fun s a r=>(∀y∈ZO s,y∈ZO r.1)/\ZtK env a r.2) (w:=fun a=>12000*ln (.cl a)) (I:=IM x e K0 env) (fun a ha s r hp k hIk=>by
  obtain⟨c,d,f⟩:=hp k bad (hN a ha) hIk hb (Zvr hbt a ha);exact⟨hIk.up d c,d,f⟩) k (by rw[Zm9];exact hI)
 exact⟨a,b.keys fun _ _ _ h=>h.1,b.al fun _ _ _ h=>h.2⟩
def Zy3{env:NM}{l m:U Za}(h:Al (ZtK env) l m):(jns m).map mq=((jns l).map mq).map fun q=>(JX env q.1,q.2):=by
 rw[ZFK,ZFK,List.map_flatMap,h.flat (f:=fun c=>(c.qG.map mq).map fun q=>(JX env q.1,q.2)) fun x y r=>by rw[r.jq,Gt];rfl]
def Zyp{env:NM}{l m:U Za}(h:Al (ZtK env) l m):(m.flatMap X9).map sg=((l.flatMap X9).map sg).map (rnS (JX env)):=by
 rw[List.map_flatMap,List.map_flatMap,List.map_flatMap,h.flat (f:=fun c=>((X9 c).map sg).map (rnS (JX env))) fun x y r=>by rw[r.pl,Gt];rfl]
def ZCM{env:NM}{l m:U Za}(h:Al (ZtK env) l m):sgs m=(E0,((sg (E0,l)).2.map fun q=>(JX env q.1,q.2)))::((l.flatMap X9).map sg).map (rnS (JX env)):=by
 unfold sgs;rw[Gd]
 have e1:sg (E0,m)=(E0,((sg (E0,l)).2.map fun q=>(JX env q.1,q.2))):=by
  unfold sg;show(E0,(jns m).map mq)=(E0,((jns l).map mq).map fun q=>(JX env q.1,q.2));rw[Zy3 h]
 rw[e1,Zyp h]
def ZvO{t:Term}(hT:ZdI t=true)(hte:t.qJ≠E0):Xi t.qJ=true:=by
 unfold ZdI at hT;rw[Ba0]at hT;have h2:=hT.2;cases hb:((t.op==2)||(t.op==6))||(t.op==8)<;>rw[hb]at h2<;>simp only[Cq1,Cq0,decide_eq_true_eq]at h2
 ·exact absurd h2 hte
 ·exact h2
def ZE5{y:Y}(h:Xi y=true):y≠E0:=fun e=>by rw[e,ZyM]at h;cases h
def Zvz{s:MB}{env:NM}{t:Term}{ds:U Za}{ks:U Term}{bad:Y->Z}(hN:NH K0 (.pr t))(hE:ZdU x e K0 s env)(heS:(pre (.ex e)).all Uo=true)(ZnQ:ln (.ex e)<=60)(heL:Lo (.ex e))(hb:∀z,(vl env z).op≠2->bad z=true)(hbt:(!decide (t.qJ=E0)&&bad t.qJ)=false)
 (ld:ds.length<=t.qK.length) (lk:ks.length=t.qQ.length) (dl:(ds.map fun a=>ln (.cl a)).sum<=60*(t.qK.map fun a=>ln (.cl a)).sum) (kl:(ks.map fun a=>ln (.pr a)).sum<=60*(t.qQ.map fun a=>ln (.pr a)).sum) (dlo:∀d∈ds,Lo (.cl d)) (klo:∀k∈ks,Lo (.pr k))
 (hfr:∀y,(((∃c∈ds,y∈fv (.cl c) [])\/∃k∈ks,y∈fv (.pr k) [])/\y∉(bif t.op==4 then Q0 ds else []))↔∃z,(((∃c∈t.qK,z∈fv (.cl c) [])\/∃k∈t.qQ,z∈fv (.pr k) [])/\z∉bl t)/\y∈Qj (vl env z)):
 Zxm env t (.mk t.op (tx0 env t.qJ) (t.args.map (exW env)) ds ks):=by
 have hT:ZdI t=true:=((Q8 _).1 hN.Uo).1;have hen:=hE.enl ZnQ heL;have hsa:∀a∈t.args,(pre (.ex a)).all Uo=true:=fun a ha=>((Q8 _).1 hN.Uo).2 _ (WH ha)
 have hla:∀a∈t.args,Lo (.ex a):=fun a ha=>hN.lo.kid (WH ha)
 have htx:t.qJ≠E0->vl env t.qJ=Uh (JX env t.qJ)/\JX env t.qJ≠E0:=fun hte=>by
  have hbf:bad t.qJ=false:=by rw[decide_eq_false hte]at hbt;simpa using hbt
  have h2:(vl env t.qJ).op=2:=by
   by_cases h:(vl env t.qJ).op=2
   ·exact h
   ·rw[hb _ h]at hbf;cases hbf
  obtain⟨a,b⟩:=hE.Uh (((Q8 _).1 heS).1) (ZvO hT hte) h2;exact⟨a,ZE5 b⟩
 have hl:=hN.lo.loc;refine⟨?_,?_,fun y=>?_⟩
 ·have:=Zb3 (f:=fun a=>ln (.ex a)) (g:=fun a=>ln (.ex a)) (Zty (R:=fun a b=>ln (.ex b)<=60*ln (.ex a)) (f:=exW env) (l:=t.args) fun x hx=>(hen.exp x (hsa x hx) (hla x hx)).1) fun x y h=>h
  rw[Zuw,Zuw t];show((t.args.map (exW env)).map fun a=>ln (.ex a)).sum+(ds.map fun a=>ln (.cl a)).sum+(ks.map fun a=>ln (.pr a)).sum+1<=_;omega
 ·rw[ZkX];refine⟨⟨?_,by show(t.args.map _).length<=_;rw[Gf];exact hl.2.1,by show ds.length<=_;exact KB ld hl.2.2.1,by show ks.length<=_;rw[lk];exact hl.2.2.2⟩,fun k h=>?_⟩
  ·show(tx0 env t.qJ).size<=BB;unfold tx0;split
   ·exact Gv _
   ·exact hen.JX hl.1
  ·simp only[ZJ,Q1,G5]at h;rcases h with(⟨y,⟨a,ha,rfl⟩,rfl⟩|⟨d,hd,rfl⟩) | ⟨d,hd,rfl⟩
   ·exact(hen.exp a (hsa a ha) (hla a ha)).2
   ·exact dlo d hd
   ·exact klo d hd
 ·rw[Wj];have hbl:bl (.mk t.op (tx0 env t.qJ) (t.args.map (exW env)) ds ks)=bif t.op==4 then Q0 ds else []:=rfl
  rw[hbl];show((y=tx0 env t.qJ/\tx0 env t.qJ≠E0)\/∃a∈t.args.map (exW env),y∈Qj a)\/((∃c∈ds,y∈fv (.cl c) [])\/∃k∈ks,y∈fv (.pr k) [])/\y∉(bif t.op==4 then Q0 ds else [])↔_;rw[hfr y]
  constructor
  ·rintro((⟨rfl,h⟩|⟨a,ha,hy⟩) | ⟨z,h,hy⟩)
   ·have hte:t.qJ≠E0:=fun z=>h (by unfold tx0;rw[if_pos z])
    refine⟨t.qJ,(Wj t _).2 (.inl (.inl ⟨rfl,hte⟩)),?_⟩;unfold tx0;rw[if_neg hte,(htx hte).1,Zat];exact List.mem_singleton_self _
   ·obtain⟨b,hb',rfl⟩:=G5.1 ha;obtain⟨z,h1,h2⟩:=(Zuh env y b (hsa b hb')).1 hy;exact⟨z,(Wj t _).2 (.inl (.inr ⟨b,hb',h1⟩)),h2⟩
   ·exact⟨z,(Wj t _).2 (.inr h),hy⟩
  ·rintro⟨z,hz,hy⟩;rcases(Wj t _).1 hz with(⟨rfl,hte⟩|⟨a,ha,hz⟩) | h
   ·obtain⟨h1,h2⟩:=htx hte;rw[h1,Zat,Q2]at hy;refine .inl (.inl ?_);unfold tx0;rw[if_neg hte];exact⟨hy,h2⟩
   ·exact .inl (.inr ⟨_,Gl ha,(Zuh env y a (hsa a ha)).2 ⟨z,hz,hy⟩⟩)
   ·exact .inr ⟨z,h,hy⟩
end
section
variable{x:Y}{e:Ze}{K0:U Y}{mine:MB}
def Zik{t:Term}{z:Y}:z∈ZO (YM (Jf (.pr t) []) [])↔z∈fv (.pr t) []:=by
 obtain⟨_,k2,_⟩:=Ut (Jf (.pr t) []) [] List.nodup_nil;unfold ZO;rw[k2];unfold fv nt;rw[List.mem_filterMap];simp only[List.map_nil,G9,false_or]
 constructor
 ·rintro⟨a,h,rfl,hn⟩;exact⟨a,h,by rw[if_neg hn]⟩
 ·rintro⟨a,h,hn⟩;by_cases hz:a.1∈a.2
  ·rw[if_pos hz]at hn;cases hn
  ·rw[if_neg hz]at hn;cases hn;exact⟨a,h,rfl,hz⟩
def ZuT{env:NM}{l to:U Y}(hn:l.Nodup)(hl:l.length=to.length){A A':Y->Prop}(hA:∀y,A' y↔∃z,A z/\y∈Qj (vl (ext env l to) z))(hc:∀z,A z->z∉l->∀m∈Qj (vl env z),m∉to)(y:Y):
 (A' y/\y∉to)↔∃z,(A z/\z∉l)/\y∈Qj (vl env z):=by
 rw[hA]
 constructor
 ·rintro⟨⟨z,hz,hy⟩,hy2⟩;by_cases h:z∈l
  ·obtain⟨w,hw,e⟩:=ZFf (env:=env) hn hl h;rw[e,Zat,Q2]at hy;exact absurd (hy▸hw) hy2
  ·rw[ZrZ hl h]at hy;exact⟨z,⟨hz,h⟩,hy⟩
 ·rintro⟨z,⟨hz,h⟩,hy⟩;exact⟨⟨z,hz,by rw[ZrZ hl h];exact hy⟩,hc z hz h y hy⟩
def ZFB{P Q:Y->Prop}{P' Q':Prop}{R:Y->Prop}(h1:P'↔∃z,P z/\R z)(h2:Q'↔∃z,Q z/\R z):(P'\/Q')↔∃z,(P z\/Q z)/\R z:=by
 rw[h1,h2]
 constructor
 ·rintro(⟨z,a,b⟩|⟨z,a,b⟩)
  ·exact⟨z,.inl a,b⟩
  ·exact⟨z,.inr a,b⟩
 ·rintro⟨z,a|a,b⟩
  ·exact .inl ⟨z,a,b⟩
  ·exact .inr ⟨z,a,b⟩
def ZEv{env:NM}{l m:U Term}(h:Al (Zxm env) l m)(y:Y):(∃k∈m,y∈fv (.pr k) [])↔∃z,(∃k∈l,z∈fv (.pr k) [])/\y∈Qj (vl env z):=by
 rw[h.ex (P:=fun k=>∃z∈fv (.pr k) [],y∈Qj (vl env z)) fun a b r=>r.fr y];exact⟨fun⟨k,hk,z,hz,hy⟩=>⟨z,⟨k,hk,hz⟩,hy⟩,fun⟨z,⟨k,hk,hz⟩,hy⟩=>⟨k,hk,z,hz,hy⟩⟩
def ZN8{env:NM}{l m:U Za}(h:Al (ZtK env) l m)(y:Y):(∃k∈m,y∈fv (.cl k) [])↔∃z,(∃k∈l,z∈fv (.cl k) [])/\y∈Qj (vl env z):=by
 rw[h.ex (P:=fun k=>∃z∈fv (.cl k) [],y∈Qj (vl env z)) fun a b r=>r.fr y];exact⟨fun⟨k,hk,z,hz,hy⟩=>⟨z,⟨k,hk,hz⟩,hy⟩,fun⟨z,⟨k,hk,hz⟩,hy⟩=>⟨k,hk,z,hz,hy⟩⟩
def Zvo{env:NM}{bad:Y->Z}(hb:∀z,(vl env z).op≠2->bad z=true){l to:U Y}(hn:l.Nodup)(hl:l.length=to.length):∀z,(vl (ext env l to) z).op≠2->QL bad l z=true:=fun z hz=>by
 by_cases h:z∈l
 ·obtain⟨w,_,e⟩:=ZFf (env:=env) hn hl h;rw[e]at hz;exact absurd rfl hz
 ·rw[ZrZ hl h]at hz;unfold QL;rw[hb z hz,decide_eq_false h];rfl
def ZCT(heS:(pre (.ex e)).all Uo=true)(ZnQ:ln (.ex e)<=60)(heL:Lo (.ex e))(hM:∀m,m∈Qj e↔(Zq mine m).getD false=true)(hMK:∀m∈Qj e,m∈K0):
 (∀t s env,MT x e K0 s env t (Wt (bdP x mine frP) s env t))/\(∀c s env,MC x e K0 s env c (Wc (bdP x mine frP) s env c)):=by
 refine ZOS (bdP x mine frP) (MT x e K0) (MC x e K0) ?_ ?_ ?_ ?_
 ·intro s env en t s1 to rd rk h4 hbd hen hd hk k bad hN hI hb hbt;obtain⟨hIC,hK,hE⟩:=hI;have hT:ZdI t=true:=((Q8 _).1 hN.Uo).1;obtain⟨d1,d2,d3⟩:=Zif hN.le hN.Uo (Y4 (.pr t));have hdl:=Zq8 d1 d2 d3;have hlen:(Q0 t.qK).length<=12000:=by unfold Q0;rw[K2];omega
  have hA:AgW t.qK=true:=by
   have:(!(t.op==4)||AgW t.qK)=true:=((Q8 _).1 hN.agr).1;rw[h4]at this
   simpa using this
  have hAS:=(ZE8 _).1 hA;have hnd:(Q0 t.qK).Nodup:=by rw[Zf1];exact ZwR hAS
  have hlK:=ZJy hN.sk;have hln:=Zuw t;obtain⟨hNw,⟨hA1,hl1⟩,hEM⟩:=ZBn hbd hIC.1 (by have:=hIC.2;omega) (fun n hn=>hK _ (hlK n hn)) hnd fun m hm=>hK _ (hMK m ((hM m).2 hm))
  have hE1:ZdU x e K0 s1 en:=by rw[hen];exact hE.bind hNw hK
  have hK1:∀y∈K0,y∈ZO s1:=fun y hy=>hNw.up y (hK y hy)
  have hb1:=Zvo hb hnd hNw.len;rw[<-hen]at hb1;rw[Zvq,h4,JT]at hbt;obtain⟨ZH0,Zws⟩:=hbt;rw[show((4:Int)==4)=true from rfl,Cq1,JT]at Zws;obtain⟨i2,u2,ad⟩:=Zpb hd (fun a ha=>hN.kid (QA ha)) hb1 Zws.1 (k+12000*(t.qQ.map fun a=>ln (.pr a)).sum) ⟨⟨hA1,by have:=hIC.2;omega⟩,hK1,hE1⟩;obtain⟨i3,u3,ak⟩:=ZeY hk (fun a ha=>hN.kid (Qa ha)) hb1 Zws.2 k i2;have htx:∀z∈txS (sgs t.qK),z∈Q0 t.qK:=fun z hz=>by rw[Zf1];exact(Zut _ z).2 hz
  have hinj:∀x∈Q0 t.qK,∀y∈Q0 t.qK,JX en x=JX en y->x=y:=by rw[hen];exact ZCv hnd hNw.nd hNw.len
  have hdn:Q0 rd.2=to:=by
   rw[Zf1,ZCM ad];have:=ZJz (f:=JX en) (g0:=sg (E0,t.qK)) (g:=(t.qK.flatMap X9).map sg) fun x hx y hy=>hinj x (htx x hx) y (htx y hy)
   refine this.trans ?_;rw[show dnS (sg (E0,t.qK)::(t.qK.flatMap X9).map sg)=Q0 t.qK from(Zf1 _).symm,hen];exact Zt1 hnd hNw.len
  have hblt:bl t=Q0 t.qK:=by unfold bl;rw[h4];rfl
  have hcap:∀z,((∃c∈t.qK,z∈fv (.cl c) [])\/∃k∈t.qQ,z∈fv (.pr k) [])->z∉Q0 t.qK->∀m∈Qj (vl env z),m∉to:=fun z hz hzl=>by
   have hzf:z∈fv (.pr t) []:=(Wj t z).2 (.inr ⟨hz,by rw[hblt];exact hzl⟩)
   exact hE.cap hNw hM hMK hEM hlK hK hzl (ZGl _ hN.sk z hzf) fun ez=>by
    show x∈ZO (YM (Jf (.pr t) []) []);rw[Zik,<-ez];exact hzf
  refine⟨i3.1,fun y hy=>u3 y (u2 y (hNw.up y hy)),Zvz hN hE heS ZnQ heL hb ZH0 (by rw[ad.len];exact K1 _) ak.len (Zb3 ad fun a b r=>r.len) (Zb3 ak fun a b r=>r.len) (fun d hd=>by obtain⟨_,_,r⟩:=ad.right d hd;exact r.lo) (fun d hd=>by obtain⟨_,_,r⟩:=ak.right d hd;exact r.lo) ?_⟩
  ·intro y;rw[h4,show(bif((4:Int)==4) then Q0 rd.2 else [])=to from hdn,hblt];rw[hen]at ad ak;exact ZuT hnd hNw.len (A:=fun z=>(∃c∈t.qK,z∈fv (.cl c) [])\/∃k∈t.qQ,z∈fv (.pr k) []) (A':=fun y=>(∃c∈rd.2,y∈fv (.cl c) [])\/∃k∈rk.2,y∈fv (.pr k) []) (fun y=>ZFB (ZN8 ad y) (ZEv ak y)) hcap y
 ·intro s env t rk h4 hk k bad hN hI hb hbt;have hT:ZdI t=true:=((Q8 _).1 hN.Uo).1;have hd0:=Zgt hT h4;have h4':(t.op==4)=false:=by simpa using h4
  have hln:=Zuw t;rw[Zvq,h4',JT]at hbt;obtain⟨ZH0,Zws⟩:=hbt;rw[Cq0]at Zws;obtain⟨i3,u3,ak⟩:=ZeY hk (fun a ha=>hN.kid (Qa ha)) hb Zws k ⟨⟨hI.1.1,by have:=hI.1.2;omega⟩,hI.2⟩;have hblt:bl t=[]:=by unfold bl;rw[h4'];rfl
  refine⟨i3.1,u3,Zvz hN hI.2.2 heS ZnQ heL hb ZH0 (by rw[hd0];exact K1 _) ak.len (by rw[hd0];exact Gv _) (Zb3 ak fun a b r=>r.len) (fun d hd=>by cases hd) (fun d hd=>by obtain⟨_,_,r⟩:=ak.right d hd;exact r.lo) ?_⟩
  ·intro y;rw[h4',show(bif false then Q0 [] else [])=([]:U Y) from rfl,hblt,hd0];have:=ZEv ak y;simp only[G9,not_false_eq_true,and_true,false_and,exists_false,false_or]at this ⊢;exact this
 ·intro s env c rd rk h2 hd hk k bad hN hI hb hbt;have hC:Zak c=true:=((Q8 _).1 hN.Uo).1
  have hj0:c.qG=[]:=by
   rcases(Zbl hC).2 with h|h
   ·omega
   ·exact h.2
  have hln:=Zl7 c;rw[Zrm,h2,show((2:Int)==2)=true from rfl,Cq1,JT]at hbt;obtain⟨i2,u2,ad⟩:=Zpb hd (fun a ha=>hN.kid (Xn ha)) hb hbt.1 (k+12000*(c.qQ.map fun a=>ln (.pr a)).sum) ⟨⟨hI.1.1,by have:=hI.1.2;omega⟩,hI.2⟩;obtain⟨i3,u3,ak⟩:=ZeY hk (fun a ha=>hN.kid (Xe ha)) hb hbt.2 k i2;have hen:=hI.2.2.enl ZnQ heL;have hl:=hN.lo.loc;refine⟨i3.1,fun y hy=>u3 y (u2 y hy),⟨?_,?_,fun y=>?_,by rw[hj0];rfl,?_⟩⟩
  ·have h1:=Zb3 ad fun a b r=>r.len
   have h3:=Zb3 ak fun a b r=>r.len
   rw[Zl7,Zl7 c];show(rd.2.map fun a=>ln (.cl a)).sum+(rk.2.map fun a=>ln (.pr a)).sum+1<=_;omega
  ·rw[ZkX];refine⟨⟨hen.JX hl.1,Gv _,by show rd.2.length<=_;rw[ad.len];exact hl.2.2.1,by show rk.2.length<=_;rw[ak.len];exact hl.2.2.2.1,fun m hm=>by cases hm⟩,fun q h=>?_⟩;simp only[ZJ,Q1,G5]at h;rcases h with⟨d,hd,rfl⟩|⟨d,hd,rfl⟩
   ·obtain⟨_,_,r⟩:=ad.right d hd;exact r.lo
   ·obtain⟨_,_,r⟩:=ak.right d hd;exact r.lo
  ·rw[KH];show(∃d∈rd.2,y∈fv (.cl d) [])\/(∃k∈rk.2,y∈fv (.pr k) [])/\y∉([]:U Y)↔_;rw[show(∃z∈fv (.cl c) [],y∈Qj (vl env z))↔∃z,((∃d∈c.qK,z∈fv (.cl d) [])\/∃k∈c.qQ,z∈fv (.pr k) [])/\y∈Qj (vl env z) from exists_congr fun z=>by rw[KH,hj0];simp[Zv]];rw[<-ZFB (ZN8 ad y) (ZEv ak y)];simp
  ·rw[UH,UH c];show(bif c.qV==2 then(JX env c.qJ,rd.2)::rd.2.flatMap X9 else []).map sg=_;rw[h2];show sg (JX env c.qJ,rd.2)::(rd.2.flatMap X9).map sg=rnS (JX env) (sg (c.qJ,c.qK))::(c.qK.flatMap X9).map (fun sp=>rnS (JX env) (sg sp))
   have e1:sg (JX env c.qJ,rd.2)=rnS (JX env) (sg (c.qJ,c.qK)):=by
    unfold sg rnS;show(JX env c.qJ,(jns rd.2).map mq)=(JX env c.qJ,((jns c.qK).map mq).map fun q=>(JX env q.1,q.2));rw[Zy3 ad]
   rw[e1,Zyp ad,Gt];rfl
 ·intro s env en c s1 to rk h2 hbd hen hk k bad hN hI hb hbt;obtain⟨hIC,hK,hE⟩:=hI;have hC:Zak c=true:=((Q8 _).1 hN.Uo).1
  have hf:c.qV=1:=by
   rcases(Zbl hC).2 with h|h
   ·exact h
   ·exact absurd h.1 h2
  have hf2:(c.qV==2)=false:=by simpa using h2
  obtain⟨ht,hd0⟩:=Zgx hC hf;obtain⟨_,_,kd,hkd⟩:=Ud hC;have hjl:=ZjE hC;have hln:=Zl7 c;have hC':=hC;unfold Zak at hC';rw[hf]at hC';simp only[Int.reduceBEq,Cq0,Ba0,beq_iff_eq,decide_eq_true_eq]at hC';obtain⟨hk1,⟨⟨⟨⟨_,_⟩,_⟩,hj0⟩,hj3⟩,hjW⟩:=hC';obtain⟨w1,w2,w3⟩:=(Zy4 _ _ _).1 hjW
  have hlK:∀n∈Zv c.qG,n∈K0:=fun n hn=>by
   obtain⟨m,hm,hn⟩:=Q3.1 hn;exact hN.sk.self _ (Kf _ (Q3.2 ⟨m,hm,Kf _ hn⟩))
  obtain⟨hNw,⟨hA1,hl1⟩,hEM⟩:=ZBn hbd hIC.1 (by have:=hIC.2;omega) (fun n hn=>hK _ (hlK n hn)) w3 fun m hm=>hK _ (hMK m ((hM m).2 hm))
  have hE1:ZdU x e K0 s1 en:=by rw[hen];exact hE.bind hNw hK
  have hK1:∀y∈K0,y∈ZO s1:=fun y hy=>hNw.up y (hK y hy)
  have hb1:=Zvo hb w3 hNw.len;rw[<-hen]at hb1;rw[Zrm,hf2,Cq0]at hbt;obtain⟨i3,u3,ak⟩:=ZeY hk (fun a ha=>hN.kid (Xe ha)) hb1 hbt k ⟨⟨hA1,by have:=hIC.2;omega⟩,hK1,hE1⟩;have hjn:Zv (c.qG.map (ZgC env en))=to:=by rw[ZsF,hen];exact Zt1 w3 hNw.len
  have ZRl:=hE.enl ZnQ heL;have ZMM:=hE1.enl ZnQ heL;have hl:=hN.lo.loc
  have hcap:∀z,(∃k∈c.qQ,z∈fv (.pr k) [])->z∉Zv c.qG->∀m∈Qj (vl env z),m∉to:=fun z hz hzl=>by
   have hzf:z∈fv (.cl c) []:=(KH c z).2 (.inr ⟨hz,hzl⟩);refine hE.cap hNw hM hMK hEM hlK hK hzl (ZGl _ hN.sk z hzf) fun ez=>?_
   simp only[frP,hkd,GP];rw[<-ez];obtain⟨q,hq,hz⟩:=hz;rw[hkd,Q2]at hq;subst hq;exact⟨Zik.2 hz,by simpa using hzl⟩
  refine⟨i3.1,fun y hy=>u3 y (hNw.up y hy),⟨?_,?_,fun y=>?_,?_,?_⟩⟩
  ·have h3:=Zb3 ak fun a b r=>r.len
   rw[Zl7,Zl7 c];show(([]:U Za).map fun a=>ln (.cl a)).sum+(rk.2.map fun a=>ln (.pr a)).sum+1<=_;rw[hd0];simp only[List.map_nil,List.sum_nil];omega
  ·rw[ZkX];refine⟨⟨Gv _,by show(c.qG.map _).length<=_;rw[Gf];exact hl.2.1,Gv _,by show rk.2.length<=_;rw[ak.len];exact hl.2.2.2.1,fun m hm=>?_⟩,fun q h=>?_⟩
   ·obtain⟨m0,hm0,rfl⟩:=G5.1 hm;obtain⟨a1,a2,a3⟩:=hl.2.2.2.2 m0 hm0;refine⟨ZRl.JX a1,by show(m0.names.map _).length<=_;rw[Gf];exact a2,fun z hz=>?_⟩;obtain⟨z0,hz0,rfl⟩:=G5.1 (show z∈m0.names.map (JX en) from hz);exact ZMM.JX (a3 z0 hz0)
   ·simp only[ZJ,List.map_nil,Ge,G5]at h;obtain⟨d,hd,rfl⟩:=h;obtain⟨_,_,r⟩:=ak.right d hd;exact r.lo
  ·rw[KH];show(∃d∈([]:U Za),y∈fv (.cl d) [])\/(∃k∈rk.2,y∈fv (.pr k) [])/\y∉Zv (c.qG.map (ZgC env en))↔_;rw[hjn,show(∃z∈fv (.cl c) [],y∈Qj (vl env z))↔∃z,((∃k∈c.qQ,z∈fv (.pr k) [])/\z∉Zv c.qG)/\y∈Qj (vl env z) from exists_congr fun z=>by rw[KH,hd0];simp];rw[hen]at ak;rw[<-ZuT w3 hNw.len (A:=fun z=>∃k∈c.qQ,z∈fv (.pr k) []) (A':=fun y=>∃k∈rk.2,y∈fv (.pr k) []) (fun y=>ZEv ak y) hcap y];simp
  ·show(c.qG.map (ZgC env en)).map mq=_;rw[Gt];refine List.map_congr_left fun m hm=>?_
   show(JX env m.qJ,(m.names.map (JX en)).length)=_;rw[Gf]
  ·rw[UH,UH c];show(bif c.qV==2 then _ else []).map sg=_;rw[hf2];rfl
end
section
def Jg(l:U Y)(m:MB):MB:=l.foldl (fun m s=>Yk m s true) m
def WU(a b:U Y)(m:MB):Jg (a++b) m=Jg b (Jg a m):=List.foldl_append
def ZaX:∀(l:U Y)(m:MB)(z:Y),z∈ZO (Jg l m)↔z∈ZO m\/z∈l
 | [],m,z=>by simp[Jg]
 | y::l,m,z=>by
   show z∈ZO (Jg l (Yk m y true))↔_;rw[ZaX l];unfold ZO;rw[Zdm];by_cases h:y∈m.map (·.1)
   ·rw[if_pos h,Kd];exact⟨fun q=>q.imp id .inr,fun q=>q.elim .inl fun q=>q.elim (fun e=>.inl (e▸h)) .inr⟩
   ·rw[if_neg h,Q1,Q2,Kd,or_assoc]
def JV.Jg{m:MB}(h:JV m):∀(l:U Y),JV (Jg l m)
 | []=>h
 | y::l=>JV.Jg (h.Yk y) l
def ZpM{m:MB}{y:Y}:(Yk m y true).length<=m.length+1:=by
 have:=congrArg List.length (Zdm m y true);rw[Gf]at this;rw[this];split<;>simp
def Zge:∀(l:U Y)(m:MB),(Jg l m).length<=m.length+l.length
 | [],m=>K1 _
 | y::l,m=>by
   have:=Zge l (Yk m y true);have:=ZpM (m:=m) (y:=y);show(Jg l (Yk m y true)).length<=_;simp only[KK];omega
def Zwc(l:U Y)(m:MB):notes [] l m=Jg l m:=by
 unfold notes Jg note;simp only[G9,if_false]
def Zz9{F:Nat}(hF:10000000000000000000<=F)(e:Ze)(hs:(pre (.ex e)).all Uo=true)(hn:(pre (.ex e)).length<=60):ZAJ F e=some (Jg (Qj e) []):=by
 unfold ZAJ Zva;rw[ZGm hF ZB0 (by simp only[KK,GQ];omega) 60 e [] hs hn Vh F Vg,Zwc];rfl
def ZCy{F:Nat}(hF:10000000000000000000<=F):∀n p,(pre p).all Uo=true->(pre p).length<=n->n<=60->∀Fr,n<=Fr->∀tk,loop Fr (ZgW F) (p,tk)=some (true,Jg ((pre p).flatMap strs) tk):=by
 intro n
 induction n with
 | zero=>intro p _ hn;have:=Xk p;omega
 | succ n ih=>
   intro p hs hn h60 Fr hFr tk;obtain⟨G,rfl⟩:∃G,Fr=G+1:=⟨Fr-1,by omega⟩
   rw[Ya];have hih:∀k∈ZJ p,∀tk,loop G (ZgW F) (k,tk)=some (true,Jg ((pre k).flatMap strs) tk):=fun k hk=>ih k (((Q8 _).1 hs).2 _ hk) (by have:=YI hk;omega) Vg G Vg
   have hkl:=Za0 p;generalize loop G (ZgW F)=nx at hih
   have hk:∀tk,loop F (Zcs nx (ZJ p)) (0,tk)=some (true,Jg (((ZJ p).flatMap pre).flatMap strs) tk):=fun tk=>by
    refine Yt (body:=Zcs nx (ZJ p)) (fun(k:Nat)(s:MB)=>((k:Int),s)) (ZJ p) (fun _ _=>True) (fun rest s=>some (true,Jg ((rest.flatMap pre).flatMap strs) s)) (F:=F) ?_ ?_ Vg tk trivial
    ·intro s nx' _;simp only[Zcs,Z6,Cq0];rfl
    ·intro k x rest s nx' hx hk hg _ ihl;simp only[Zcs,ZR hk,Cq1,hg,Bq0,hih x hx,QP,Cq0];rw[Jj Vg,ihl _ trivial,Ks,Gy,WU]
   have hpt:=parts_eq hF p (show(ZJ p).length<=BS by unfold BS;omega);cases p with
   | pr t=>
     show((W9 F (Part.pr t)).bind fun x53=>loop F (Zcs nx x53) (0,Yk tk t.qJ true))=_;rw[hpt,Bq0,hk,pre_eq,Ks,WU];rfl
   | ex e=>
     show((W9 F (Part.ex e)).bind fun x53=>loop F (Zcs nx x53) (0,Yk tk e.qJ true))=_;rw[hpt,Bq0,hk,pre_eq,Ks,WU];rfl
   | cl c=>
     have hC:Zak c=true:=((Q8 _).1 hs).1;obtain⟨h3,hn3,_⟩:=Ud hC;show loop F (ZgX F nx c) (0,Yk tk c.qJ true)=_;have:=Yt (body:=ZgX F nx c) (fun(k:Nat)(s:MB)=>((k:Int),s)) c.qG (fun _ _=>True) (fun rest s=>some (true,Jg (((ZJ (.cl c)).flatMap pre).flatMap strs) (Jg (rest.flatMap fun m=>m.qJ::m.names) s))) (F:=F) ?_ ?_ Vg (Yk tk c.qJ true) trivial
     ·refine this.trans ?_;rw[pre_eq,Ks,WU];rfl
     ·intro s nx' _;simp only[ZgX,Z6,Cq0,QP,hpt,Bq0];exact hk s
     ·intro k m rest s nx' hm hk' hg _ ihl;simp only[ZgX,ZR hk',Cq1,hg,Bq0];have hmn:=hn3 m hm;have:=Yt (body:=Zj8 (k:Int) nx' m) (fun(q:Nat)(s:MB)=>((q:Int),s)) m.names (fun _ _=>True) (fun rest s=>nx' (XO ((k:Int)+1),Jg rest s)) (F:=F) ?_ ?_ Vg (Yk s m.qJ true) trivial
      ·refine this.trans ?_;rw[Jj Vg,ihl _ trivial,Ks,WU];rfl
      ·intro s ZQo _;simp only[Zj8,Z6,Cq0];rfl
      ·intro q y rest s ZQo hy hq hg' _ ihq;simp only[Zj8,ZR hq,Cq1,hg',Bq0];rw[Jj Vg];exact ihq _ trivial
def ZI6{F:Nat}(hF:10000000000000000000<=F)(t:Term)(hs:(pre (.pr t)).all Uo=true)(hn:(pre (.pr t)).length<=60):ZAI F t=some (Jg ((pre (.pr t)).flatMap strs) []):=by
 unfold ZAI;rw[ZCy hF 60 (.pr t) hs hn Vh F Vg];rfl
def ZxZ{p:Part}(h:Uo p=true):(strs p).length<=13:=by
 cases p with
 | pr t=>simp[strs]
 | ex e=>simp[strs]
 | cl c=>
   obtain⟨h3,hn3,_⟩:=Ud (show Zak c=true from h)
   have:∀js:U YJ,(∀m∈js,m.names.length<=3)->(js.flatMap fun m=>m.qJ::m.names).length<=4*js.length:=by
    intro js
    induction js with
    | nil=>intro _;simp
    | cons m js ihj=>
      intro h;have a:=h m (by simp);have b:=ihj fun x hx=>h x (Kf _ hx)
      rw[Ks,K2,KK,KK];omega
   have:=this c.qG hn3;show(c.qJ::_).length<=13;rw[KK];omega
def ZAy:∀(l:U Part),(∀p∈l,Uo p=true)->(l.flatMap strs).length<=13*l.length
 | [],_=>K1 _
 | p::l,h=>by
   have a:=ZxZ (h p (by simp));have b:=ZAy l fun x hx=>h x (Kf _ hx)
   rw[Ks,K2,KK];omega
def tkP(x:Y)(e:Ze)(t:Term):MB:=Go.ZF.ZlG (Yk (Jg ((pre (.pr t)).flatMap strs) []) x true) (Jg (Qj e) [])
def ZmO(m l:MB):Go.ZF.ZlG m l=Jg (l.map (·.1)) m:=by
 unfold Go.ZF.ZlG Jg;rw[List.foldl_map]
def ZyR{m:MB}{y z:Y}:z∈ZO (Yk m y true)↔z∈ZO m\/z=y:=by
 have:=ZaX [y] m z;rw[Q2]at this;exact this
def Zur{x:Y}{e:Ze}{t:Term}(z:Y):z∈ZO (tkP x e t)↔(z∈(pre (.pr t)).flatMap strs\/z=x)\/z∈Qj e:=by
 unfold tkP;rw[ZmO,ZaX,ZyR,ZaX]
 have:z∈(Jg (Qj e) []).map (·.1)↔z∈Qj e:=by
  have:=ZaX (Qj e) [] z;unfold ZO at this
  simpa using this
 rw[this];simp[ZO]
def ZrI:JV []:=fun p hp=>by cases hp
def ZxW{x:Y}{e:Ze}{t:Term}(hs:(pre (.pr t)).all Uo=true)(hn:(pre (.pr t)).length<=60)(he:(pre (.ex e)).length<=60):JV (tkP x e t)/\(tkP x e t).length<=2000:=by
 unfold tkP;rw[ZmO];refine⟨((ZrI.Jg _).Yk x).Jg _,?_⟩;have h1:=Zge ((Jg (Qj e) []).map (·.1)) (Yk (Jg ((pre (.pr t)).flatMap strs) []) x true);have h2:=ZpM (m:=Jg ((pre (.pr t)).flatMap strs) []) (y:=x);have h3:=Zge ((pre (.pr t)).flatMap strs) [];have h4:=Zge (Qj e) [];have h5:=ZAy (pre (.pr t)) (Kx.1 hs);have h6:=Zfd e;rw[Gf]at h1;simp only[GQ]at h3 h4;omega
def Zno(x:Y)(e:Ze)(t:Term):Term:=ZHq x e (Jg (Qj e) []) (tkP x e t) t
def ZLs(e:Ze)(m:Y):m∈Qj e↔(Zq (Jg (Qj e) []) m).getD false=true:=by
 rw[(ZrI.Jg (Qj e)).get m,decide_eq_true_iff,ZaX];simp[ZO]
def ZDX{t:Term}(h:Ql AgW (.pr t)=true)(hl:Lo (.pr t)){K0:U Y}(hK:∀z∈(pre (.pr t)).flatMap strs,z∈K0):NH K0 (.pr t):=by
 obtain⟨a,b⟩:=WI h;unfold Ql at h;simp only[Ba0,decide_eq_true_eq]at h;exact⟨a,h.2,hl,b,fun q hq s hs=>hK s (Q3.2 ⟨q,hq,hs⟩)⟩
def Znn{t:Term}{x:Y}{e:Ze}(h:Ql AgW (.pr t)=true)(hl:Lo (.pr t))(he:Ql AgW (.ex e)=true)(hel:Lo (.ex e))(hb:bT (Zhd x e) t=false):Zxm [(x,e)] t (Zno x e t):=by
 obtain⟨e1,e2⟩:=WI he;have hN:=ZDX (K0:=ZO (tkP x e t)) h hl fun z hz=>(Zur z).2 (.inl (.inl hz))
 obtain⟨a,b⟩:=ZxW (x:=x) (e:=e) hN.Uo hN.le e2;refine((ZCT (K0:=ZO (tkP x e t)) e1 e2 hel (ZLs e) fun m hm=>(Zur m).2 (.inr hm)).1 t (tkP x e t) [(x,e)] 0 (Zhd x e) hN ⟨⟨a,by have:=hN.le;unfold ln at *;omega⟩,fun y hy=>hy,⟨[],rfl,fun z v hv=>by cases hv⟩⟩ (fun z hz=>?_) hb).2.2;unfold Zhd;have hv:vl [(x,e)] z=if z=x then e else Uh z:=ZiM (inn:=[]) z
 rw[hv]at hz;by_cases hx:z=x
 ·rw[if_pos hx]at hz;rw[decide_eq_true hx,show(e.op==2)=false by simpa using hz];rfl
 ·rw[if_neg hx]at hz;exact absurd rfl hz
def Zjs{t:Term}{z:Y}:z∈Js t↔z∈fv (.pr t) []:=by
 rw[<-Zik];obtain⟨_,k2,_⟩:=Ut (Jf (.pr t) []) [] List.nodup_nil;unfold ZO Js;rw[k2,Zdi];simp
def Zm0(x:Y)(e:Ze)(z:Y):vl [(x,e)] z=if z=x then e else Uh z:=ZiM (inn:=[]) z
def ZaR(t:Term)(x:Y)(e:Ze):Term×Int:=
 bif Ql AgW (.pr t)&&Xi x&&Ql AgW (.ex e) then
  bif decide (x∈Js t) then bif bT (Zhd x e) t then(.mk 0 (⟨#[]⟩:Y) [] [] [],7) else bif Ql AgW (.pr (Zno x e t)) then(Zno x e t,0) else(.mk 0 (⟨#[]⟩:Y) [] [] [],3) else(t,0)
 else(.mk 0 (⟨#[]⟩:Y) [] [] [],2)
def ZLk{F:Nat}(hF:10000000000000000000<=F)(t:Term)(x:Y)(e:Ze)(hs:Lo (.pr t))(hx:x.size<=BB)(hse:Lo (.ex e))(hFt:(pre (.pr t)).length<=F)(hFe:(pre (.ex e)).length<=F):ZAP F t x e=some (ZaR t x e):=by
 unfold ZAP ZaR;rw[Zoq hF t hs hFt,Bq0];cases h:Ql AgW (.pr t) with
 | false=>rfl
 | true=>
   rw[nameP hF hx];cases hxn:Xi x with
   | false=>rfl
   | true=>
     rw[ZBa hF e hse hFe];cases he:Ql AgW (.ex e) with
     | false=>rfl
     | true=>
       obtain⟨a1,a2⟩:=WI h;obtain⟨e1,e2⟩:=WI he;show((Zbu F t).bind fun m=>(ZdL m x false).bind fun y=>bif !y then(ZwG F t).bind fun u=>some (u,0) else(ZEl F t x e).bind fun p=>Jp p (fun k=>some (Term.mk 0 (⟨#[]⟩:Y) [] [] [],k)) fun u=>some (u,0))=some (bif decide (x∈Js t) then _ else(t,0));obtain⟨f1,f2⟩:=Zbt hF t a1 a2;rw[f1,Bq0,f2];show(bif !((Zq (YM (Jf (.pr t) []) []) x).getD false) then some (t,(0:Int)) else _)=_;rw[(ZoW (.pr t)).get x];have hd:decide (x∈ZO (YM (Jf (.pr t) []) []))=decide (x∈Js t):=by rw[decide_eq_decide,Zik,Zjs]
       rw[hd];cases decide (x∈Js t) with
       | false=>rfl
       | true=>
         obtain⟨t1,t2⟩:=ZxW (x:=x) (e:=e) a1 a2 e2;obtain⟨ws,hw⟩:=ZLj hF x (e:=e) (Jg (Qj e) []) (tkP x e t) t a1 a2 e2 t1 Vg;unfold ZEl;rw[Zz9 hF e e1 e2,Bq0,ZI6 hF t a1 a2,Bq0];show(((Zkp F (Za7 F (ZfF F x (Jg (Qj e) []))) (fun t names=>ZbM F t names) (fun t=>Zbu F t) (([],tkP x e t),[[(x,e)]],t)).bind fun p=>Jp p (fun k=>some (PR.ZX k)) fun r=>(Zlo F r.2).bind fun c=>bif c !=0 then some (PR.ZX 3) else some (PR.ok r.2)).bind fun p=>Jp p (fun k=>some (Term.mk 0 (⟨#[]⟩:Y) [] [] [],k)) fun u=>some (u,0))=some (bif bT (Zhd x e) t then _ else _);rw[hw,Bq0];cases hb:bT (Zhd x e) t with
         | true=>rfl
         | false=>
           have hP:=Znn (x:=x) h hs he hse hb;have hln:(pre (.pr (Zno x e t))).length<=F:=by have:=hP.len;unfold ln at this;omega
           simp only[Cq0,Zc9];rw[show ZHq x e (Jg (Qj e) []) (tkP x e t) t=Zno x e t from rfl,Zoq hF _ hP.lo hln,Bq0];cases Ql AgW (.pr (Zno x e t))<;>rfl
def U2{α:Type}(a b:α):Z:=@decide (a=b) (Classical.propDecidable _)
def X3{α:Type}{a b:α}:U2 a b=true↔a=b:=by unfold U2;exact @decide_eq_true_iff _ (Classical.propDecidable _)
def ZqZ{α:Type}(a:α):U2 a a=true:=X3.2 rfl
def Zg4{α:Type}{a b:α}(h:a≠b):U2 a b=false:=by
 cases e:U2 a b
 ·rfl
 ·exact absurd (X3.1 e) h
def Wl{α:Type}(l r:U α)(hn:l.length=r.length)(hl:l.length<=BS){body:Int->(Int->O Z)->O Z}{fin:O Z}
 (hb:∀(k:Nat)(h:k<l.length) nx,body (k:Int) nx=bif U2 l[k] (r[k]'Vg) then nx ((k+1:Nat):Int) else some false)
 (he:∀nx,body (l.length:Int) nx=fin) {F:Nat} (hF:10000000000000000000<=F):loop F body 0=bif U2 l r then fin else some false:=by
 unfold BS at hl
 have:=Zjx (body:=body) (r1:=some false) (r2:=fin) (fun k:Nat=>(k:Int)) (fun k=>!U2 l[k]? r[k]?) (n:=l.length) (F:=F) Vg
  (fun k hk nx=>by
    rw[hb k hk nx,J0 hk,J0 (show k<r.length by omega)]
    have:U2 (some l[k]) (some (r[k]'Vg))=U2 l[k] (r[k]'Vg):=by
     rw[GM,X3,X3];simp
    rw[this];cases U2 l[k] (r[k]'Vg)<;>rfl) he
 refine(show loop F body 0=loop F body ((0:Nat):Int) from rfl).trans (this.trans ?_);cases h:U2 l r with
 | true=>
   have e:=X3.1 h;subst e
   have:(List.range l.length).any (fun k=>!U2 l[k]? l[k]?)=false:=by
    rw[List.any_eq_false];intro k _;rw[ZqZ];simp
   rw[this];rfl
 | false=>
   have:(List.range l.length).any (fun k=>!U2 l[k]? r[k]?)=true:=by
    rw[GF];refine Decidable.byContradiction fun hz=>?_
    have:l=r:=GO fun k=>by
     by_cases hk:k<l.length
     ·refine X3.1 ?_;cases e:U2 l[k]? r[k]?
      ·exact absurd ⟨k,GS.2 hk,by rw[e];rfl⟩ hz
      ·rfl
     ·rw[Jx Vg,Jx Vg]
    rw[X3.2 this]at h;cases h
   rw[this];rfl
def okS:Part->Prop
 | .pr t=>t.args.length<=BS/\t.qK.length<=BS/\t.qQ.length<=BS
 | .ex e=>e.qQ.length<=BS
 | .cl c=>c.qG.length<=BS/\(∀m∈c.qG,m.names.length<=BS)/\c.qK.length<=BS/\c.qQ.length<=BS
def Zla(p:Part):Prop:=∀q∈pre p,okS q
def Zgz{p:Part}(h:Zla p):okS p:=h p (Y4 p)
def ZaU{p k:Part}(h:Zla p)(hk:k∈ZJ p):Zla k:=fun q hq=>h q (YL hk hq)
def Zci{α β:Type}{l:U α}{r:U β}(h:l.length=r.length):((l.length:Int) !=(r.length:Int))=false:=by rw[h];exact Zfe _
def Zst{F:Nat}(hF:10000000000000000000<=F)(l r:U Y)(hl:l.length<=BS):ZwK F l r=some (U2 l r):=by
 unfold ZwK;by_cases hne:l.length=r.length
 ·rw[Zci hne,Cq0];refine(Wl l r hne hl (fin:=some true) (fun k hk nx=>?_) (fun nx=>?_) hF).trans ?_
  ·unfold BS at hl;simp only[Zn4,ZR hk,Cq1,Jl hk,Jl (show k<r.length by omega),Bq0,ZmY (show k<4611686018427387904 by omega)];by_cases e:l[k]=r[k]'Vg
   ·rw[X3.2 e];simp[e]
   ·rw[Zg4 e];simp[e]
  ·simp[Zn4]
  ·cases U2 l r<;>rfl
 ·have:((l.length:Int) !=(r.length:Int))=true:=by simpa using fun h=>hne Vg
  rw[this,Cq1,Zg4 fun h=>hne (congrArg _ h)]
def ZAV{F:Nat}(hF:10000000000000000000<=F):∀n a b,Zla (.ex a)->(pre (.ex a)).length<=n->∀Fr,n<=Fr->loop Fr (ZqC F) (a,b)=some (U2 a b):=by
 intro n
 induction n with
 | zero=>intro a b _ hp;have:=Xk (.ex a);omega
 | succ n ih=>
   intro a b hs hp Fr hf;obtain⟨m,rfl⟩:∃m,Fr=m+1:=⟨Fr-1,by omega⟩
   rw[Ya];show(bif((((a.op !=b.op)||(a.n !=b.n))||(!decide (a.qJ=b.qJ)))||((a.qQ.length:Int) !=(b.qQ.length:Int))) then some false else loop F (Zj7 a b (loop m (ZqC F))) 0)=_;by_cases h:a.op=b.op/\a.n=b.n/\a.qJ=b.qJ/\a.qQ.length=b.qQ.length
   ·obtain⟨h1,h2,h3,h4⟩:=h;rw[h1,h2,h3,Zci h4,Zfe,Zfe,decide_eq_true rfl];simp only[Bool.or_self,QP,Cq0];have hl:a.qQ.length<=BS:=Zgz hs;refine(Wl a.qQ b.qQ h4 hl (fin:=some true) (fun k hk nx=>?_) (fun nx=>?_) hF).trans ?_
    ·have hmem:Part.ex a.qQ[k]∈ZJ (.ex a):=G5.2 ⟨_,GK hk,rfl⟩;have:=ih a.qQ[k] (b.qQ[k]'Vg) (ZaU hs hmem) (by have:=YI hmem;omega) m Vg;unfold BS at hl;simp only[Zj7,ZR hk,Cq1,Jl hk,Jl (show k<b.qQ.length by omega),Bq0,this,ZmY (show k<4611686018427387904 by omega)];cases U2 a.qQ[k] (b.qQ[k]'Vg)<;>rfl
    ·simp[Zj7]
    ·have:U2 a b=U2 a.qQ b.qQ:=by
      rw[GM,X3,X3];cases a;cases b;simp only[Ze.mk.injEq]at *;exact⟨fun h=>h.2.2.2,fun h=>⟨h1,h2,h3,h⟩⟩
     rw[this];cases U2 a.qQ b.qQ<;>rfl
   ·have hne:a≠b:=fun e=>h ⟨by rw[e],by rw[e],by rw[e],by rw[e]⟩
    have:((((a.op !=b.op)||(a.n !=b.n))||(!decide (a.qJ=b.qJ)))||((a.qQ.length:Int) !=(b.qQ.length:Int)))=true:=by
     refine Decidable.byContradiction fun hz=>h ?_
     simp only[Bool.not_eq_true,JT,bne_eq_false_iff_eq,Bool.not_eq_false',decide_eq_true_eq]at hz;exact⟨hz.1.1.1,hz.1.1.2,hz.1.2,by omega⟩
    rw[this,Cq1,Zg4 hne]
def ZqF{F:Nat}(hF:10000000000000000000<=F)(nx:Term×Term->O Z)(l r:U Term)(hl:l.length<=BS)(hnx:∀k∈l,∀y,nx (k,y)=some (U2 k y)):ZqG F nx l r=some (U2 l r):=by
 unfold ZqG;by_cases hne:l.length=r.length
 ·rw[Zci hne,Cq0];refine(Wl l r hne hl (fin:=some true) (fun k hk nx=>?_) (fun nx=>?_) hF).trans ?_
  ·unfold BS at hl;simp only[Zn3,ZR hk,Cq1,Jl hk,Jl (show k<r.length by omega),Bq0,hnx _ (GK hk),ZmY (show k<4611686018427387904 by omega)];cases U2 l[k] (r[k]'Vg)<;>rfl
  ·simp[Zn3]
  ·cases U2 l r<;>rfl
 ·have:((l.length:Int) !=(r.length:Int))=true:=by simpa using fun h=>hne Vg
  rw[this,Cq1,Zg4 fun h=>hne (congrArg _ h)]
def ZAC{F:Nat}(hF:10000000000000000000<=F)(nx:Term×Term->O Z)(B:Nat)(hnx:∀k:Term,(pre (.pr k)).length<B->Zla (.pr k)->∀y,nx (k,y)=some (U2 k y)):∀n a b,Zla (.cl a)->(pre (.cl a)).length<=n->n<=B->∀Fr,n<=Fr->loop Fr (Zj5 F nx) (a,b)=some (U2 a b):=by
 intro n
 induction n with
 | zero=>intro a b _ hp;have:=Xk (.cl a);omega
 | succ n ih=>
   intro a b hs hp hB Fr hf;obtain⟨m,rfl⟩:∃m,Fr=m+1:=⟨Fr-1,by omega⟩
   rw[Ya];show(bif((((a.qV !=b.qV)||(!decide (a.qJ=b.qJ)))||((a.qG.length:Int) !=(b.qG.length:Int)))||((a.qK.length:Int) !=(b.qK.length:Int))) then some false else loop F (Zj6 F a b nx (loop m (Zj5 F nx))) 0)=_;by_cases h:a.qV=b.qV/\a.qJ=b.qJ/\a.qG.length=b.qG.length/\a.qK.length=b.qK.length
   ·obtain⟨h1,h2,h3,h4⟩:=h;rw[h1,h2,Zci h3,Zci h4,Zfe,decide_eq_true rfl];simp only[Bool.or_self,QP,Cq0];obtain⟨o1,o2,o3,o4⟩:=Zgz hs;have hk:ZqG F nx a.qQ b.qQ=some (U2 a.qQ b.qQ):=ZqF hF nx _ _ o4 fun k hk y=>hnx k (by have:=YI (p:=.cl a) (k:=.pr k) (by simp only[ZJ,Q1,G5];exact .inr ⟨k,hk,rfl⟩);omega) (ZaU hs (by simp only[ZJ,Q1,G5];exact .inr ⟨k,hk,rfl⟩)) y
    have hd:loop F (ZgV F a b nx (loop m (Zj5 F nx))) 0=bif U2 a.qK b.qK then some (U2 a.qQ b.qQ) else some false:=by
     refine Wl a.qK b.qK h4 o3 (fun k hk nx'=>?_) (fun nx'=>?_) hF
     ·have hmem:Part.cl a.qK[k]∈ZJ (.cl a):=by simp only[ZJ,Q1,G5];exact .inl ⟨_,GK hk,rfl⟩
      have:=ih a.qK[k] (b.qK[k]'Vg) (ZaU hs hmem) (by have:=YI hmem;omega) Vg m Vg;unfold BS at o3;simp only[ZgV,ZR hk,Cq1,Jl hk,Jl (show k<b.qK.length by omega),Bq0,this,ZmY (show k<4611686018427387904 by omega)];cases U2 a.qK[k] (b.qK[k]'Vg)<;>rfl
     ·simp only[ZgV,Z6,Cq0,hk,Bq0]
    refine(Wl a.qG b.qG h3 o1 (fin:=loop F (ZgV F a b nx (loop m (Zj5 F nx))) 0) (fun k hk nx'=>?_) (fun nx'=>?_) hF).trans ?_
    ·have hm:=Zst hF a.qG[k].names (b.qG[k]'Vg).names (o2 _ (GK hk));unfold BS at o1;simp only[Zj6,ZR hk,Cq1,Jl hk,Jl (show k<b.qG.length by omega),Bq0,ZmY (show k<4611686018427387904 by omega)]
     have e:U2 a.qG[k] (b.qG[k]'Vg)=(decide (a.qG[k].qJ=(b.qG[k]'Vg).qJ)&&U2 a.qG[k].names (b.qG[k]'Vg).names):=by
      rw[GM,Ba0,X3,X3,decide_eq_true_iff];generalize a.qG[k]=u;generalize b.qG[k]'Vg=v;cases u;cases v;simp only[YJ.mk.injEq]
     rw[e];by_cases ht:a.qG[k].qJ=(b.qG[k]'Vg).qJ
     ·rw[decide_eq_true ht];simp only[QP,GA,gd,Cq1,Bq0,hm,Bool.false_or,GG];cases U2 a.qG[k].names (b.qG[k]'Vg).names<;>rfl
     ·rw[decide_eq_false ht];simp only[QP,GA,gd,Cq0,Cq1,Bq0,Bool.true_or,Bool.false_and]
    ·simp only[Zj6,Z6,Cq0]
    ·rw[hd]
     have:U2 a b=(U2 a.qG b.qG&&(U2 a.qK b.qK&&U2 a.qQ b.qQ)):=by
      rw[GM,Ba0,Ba0,X3,X3,X3,X3];cases a;cases b;simp only[Za.mk.injEq]at *;exact⟨fun h=>h.2.2,fun h=>⟨h1,h2,h⟩⟩
     rw[this];cases U2 a.qG b.qG<;>cases U2 a.qK b.qK<;>rfl
   ·have hne:a≠b:=fun e=>h ⟨by rw[e],by rw[e],by rw[e],by rw[e]⟩
    have:((((a.qV !=b.qV)||(!decide (a.qJ=b.qJ)))||((a.qG.length:Int) !=(b.qG.length:Int)))||((a.qK.length:Int) !=(b.qK.length:Int)))=true:=by
     refine Decidable.byContradiction fun hz=>h ?_
     simp only[Bool.not_eq_true,JT,bne_eq_false_iff_eq,Bool.not_eq_false',decide_eq_true_eq]at hz;exact⟨hz.1.1.1,hz.1.1.2,by omega,by omega⟩
    rw[this,Cq1,Zg4 hne]
def ZvP{F:Nat}(hF:10000000000000000000<=F):∀n a b,Zla (.pr a)->(pre (.pr a)).length<=n->n<=F->∀Fr,n<=Fr->loop Fr (ZhM F) (a,b)=some (U2 a b):=by
 intro n
 induction n with
 | zero=>intro a b _ hp;have:=Xk (.pr a);omega
 | succ n ih=>
   intro a b hs hp hnF Fr hf;obtain⟨m,rfl⟩:∃m,Fr=m+1:=⟨Fr-1,by omega⟩
   rw[Ya];show(bif(((((a.op !=b.op)||(!decide (a.qJ=b.qJ)))||((a.args.length:Int) !=(b.args.length:Int)))||((a.qK.length:Int) !=(b.qK.length:Int)))||((a.qQ.length:Int) !=(b.qQ.length:Int))) then some false else loop F (Zkj F a b (loop m (ZhM F))) 0)=_;by_cases h:a.op=b.op/\a.qJ=b.qJ/\a.args.length=b.args.length/\a.qK.length=b.qK.length/\a.qQ.length=b.qQ.length
   ·obtain⟨h1,h2,h3,h4,h5⟩:=h;rw[h1,h2,Zci h3,Zci h4,Zci h5,Zfe,decide_eq_true rfl];simp only[Bool.or_self,QP,Cq0];obtain⟨o1,o3,o4⟩:=Zgz hs;have hnx:∀k:Term,(pre (.pr k)).length<(pre (.pr a)).length->Zla (.pr k)->∀y,loop m (ZhM F) (k,y)=some (U2 k y):=fun k hk ho y=>ih k y ho Vg Vg m Vg
    have hk:ZqG F (loop m (ZhM F)) a.qQ b.qQ=some (U2 a.qQ b.qQ):=ZqF hF _ _ _ o4 fun k hk y=>hnx k (YI (p:=.pr a) (k:=.pr k) (by simp only[ZJ,Q1,G5];exact .inr ⟨k,hk,rfl⟩)) (ZaU hs (by simp only[ZJ,Q1,G5];exact .inr ⟨k,hk,rfl⟩)) y
    have hd:loop F (Zki F a b (loop m (ZhM F))) 0=bif U2 a.qK b.qK then some (U2 a.qQ b.qQ) else some false:=by
     refine Wl a.qK b.qK h4 o3 (fun k hk nx'=>?_) (fun nx'=>?_) hF
     ·have hmem:Part.cl a.qK[k]∈ZJ (.pr a):=by simp only[ZJ,Q1,G5];exact .inl (.inr ⟨_,GK hk,rfl⟩)
      have hlt:=YI hmem;have:=ZAC hF _ (pre (.pr a)).length hnx (pre (.cl a.qK[k])).length a.qK[k] (b.qK[k]'Vg) (ZaU hs hmem) Vh Vg F Vg;unfold BS at o3;simp only[Zki,ZIW,ZR hk,Cq1,Jl hk,Jl (show k<b.qK.length by omega),Bq0,this,ZmY (show k<4611686018427387904 by omega)];cases U2 a.qK[k] (b.qK[k]'Vg)<;>rfl
     ·simp only[Zki,Z6,Cq0,hk,Bq0]
    refine(Wl a.args b.args h3 o1 (fin:=bif U2 a.qK b.qK then some (U2 a.qQ b.qQ) else some false) (fun k hk nx'=>?_) (fun nx'=>?_) hF).trans ?_
    ·have hmem:Part.ex a.args[k]∈ZJ (.pr a):=by simp only[ZJ,Q1,G5];exact .inl (.inl ⟨_,GK hk,rfl⟩)
     have hlt:=YI hmem;have:=ZAV hF (pre (.ex a.args[k])).length a.args[k] (b.args[k]'Vg) (ZaU hs hmem) Vh F Vg;unfold BS at o1;simp only[Zkj,ZEd,ZR hk,Cq1,Jl hk,Jl (show k<b.args.length by omega),Bq0,this,ZmY (show k<4611686018427387904 by omega)];cases U2 a.args[k] (b.args[k]'Vg)<;>rfl
    ·simp only[Zkj,Z6,Cq0,hd]
    ·have:U2 a b=(U2 a.args b.args&&(U2 a.qK b.qK&&U2 a.qQ b.qQ)):=by
      rw[GM,Ba0,Ba0,X3,X3,X3,X3];cases a;cases b;simp only[Term.mk.injEq]at *;exact⟨fun h=>h.2.2,fun h=>⟨h1,h2,h⟩⟩
     rw[this];cases U2 a.args b.args<;>cases U2 a.qK b.qK<;>rfl
   ·have hne:a≠b:=fun e=>h ⟨by rw[e],by rw[e],by rw[e],by rw[e],by rw[e]⟩
    have:(((((a.op !=b.op)||(!decide (a.qJ=b.qJ)))||((a.args.length:Int) !=(b.args.length:Int)))||((a.qK.length:Int) !=(b.qK.length:Int)))||((a.qQ.length:Int) !=(b.qQ.length:Int)))=true:=by
     refine Decidable.byContradiction fun hz=>h ?_
     simp only[Bool.not_eq_true,JT,bne_eq_false_iff_eq,Bool.not_eq_false',decide_eq_true_eq]at hz;exact⟨hz.1.1.1.1,hz.1.1.1.2,by omega,by omega,by omega⟩
    rw[this,Cq1,Zg4 hne]
def same_eq{F:Nat}(hF:10000000000000000000<=F)(a b:Term)(h:Zla (.pr a))(hp:(pre (.pr a)).length<=F):ZEk F a b=some (U2 a b):=ZvP hF _ a b h Vh hp F hp
def ZC3:Zla (.pr (.mk 0 (⟨#[]⟩:Y) [] [] [])):=fun q hq=>by
 rw[pre_eq]at hq;rcases Kd.1 hq with rfl|hq
 ·exact⟨Gv _,Gv _,Gv _⟩
 ·simp[ZJ]at hq
def ZC6{F:Nat}(hF:10000000000000000000<=F):ZwJ F (.mk 0 (⟨#[]⟩:Y) [] [] [])=some true:=by
 unfold ZwJ;rw[same_eq hF _ _ ZC3 (by rw[JL];simp[ZJ];omega),ZqZ];rfl
end
end Go.Proofs.YtbnepjakjmnadaaGreat
end
end
