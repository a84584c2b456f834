/- TermLayouts returns true, whatever the arguments: a process that is laid out stays as it is when that is done again. No condition. -/
import Derived.Test.YtbnepjakjmnadaaGreatLa18
set_option linter.all false
set_option maxHeartbeats 2000000
section
noncomputable section
namespace Go.Proofs.YtbnepjakjmnadaaGreat
open Go.Lf
section
def Zxr(c:Za)(l:U Za):Y3 (c::l)=(YT c).map (·.1)++Y3 l:=by unfold Y3;rw[K2,GC]
def ZKt(ns l:U Y)(x:Y):(fun s=>decide (s∈ns++[x]++l))=fun s=>(decide (s∈ns)||decide (s=x))||decide (s∈l):=by
 funext s;by_cases h1:s∈ns<;>by_cases h2:s=x<;>by_cases h3:s∈l<;>simp[h1,h2,h3]
def Zlw{F:Nat}(hF:10000000000000000000<=F):∀n (l:U Za) (s:Xa),(l.flatMap YT).length<=n->l.length<=60->(∀sp∈l.flatMap YT,OkS sp)->s.places.length+(l.flatMap YT).length<=1000->∀Fr,n<Fr ->
 loop Fr (ZjX F) (s,l)=some ⟨s.channels,s.many,s.at_,s.places++Y3 l,s.bad || !WM (fun x=>decide (x∈s.places)) (Y3 l)⟩:=by
 intro n
 induction n using Nat.strongRecOn with
 | _ n ih=>
   intro l s hn hl Zpe hs1 Fr hFr;obtain⟨G,rfl⟩:∃G,Fr=G+1:=⟨Fr-1,by omega⟩
   rw[ZH]
   have hih:∀c∈l,c.form=2->∀s:Xa,s.places.length+(YT c).length<=1001->loop G (ZjX F) (s,c.defs)=some ⟨s.channels,s.many,s.at_,s.places++Y3 c.defs,s.bad || !WM (fun x=>decide (x∈s.places)) (Y3 c.defs)⟩:=fun c hc hf s hs=>by
    have e:YT c=(c.text,c.defs)::c.defs.flatMap YT:=by rw[JB,hf];rfl
    have hle:(YT c).length<=(l.flatMap YT).length:=Za3 hc;have hm:∀sp∈YT c,OkS sp:=fun sp hsp=>Zpe sp (Q2.2 ⟨c,hc,hsp⟩)
    rw[e]at hle hm hs;simp only[Kf]at hle hs;exact ih (n-1) Va c.defs s Va (hm (c.text,c.defs) (by simp)).1 (fun sp hsp=>hm sp (by simp[hsp])) Va G Va
   generalize loop G (ZjX F)=n1 at hih;unfold ZjX;dsimp only;refine ZM (body:=ZhI F l n1) (fun(k:Nat)(p:U Y×Z)=>((k:Int),s.channels,s.many,s.at_,p.1,p.2)) l (fun rest p=>p.1.length+(rest.flatMap YT).length<=1000) (fun rest p=>some ⟨s.channels,s.many,s.at_,p.1++Y3 rest,p.2 || !WM (fun x=>decide (x∈p.1)) (Y3 rest)⟩) (F:=F) ?_ ?_ Va (s.places,s.bad) hs1
   ·intro p nx _;simp only[ZhI,Zp,Cq0,Y3,GH,List.map_nil,Gk,WM,KK,Bool.or_false]
   ·intro k c rest p nx hc hk hg hp ihl;obtain⟨pl,bad⟩:=p;dsimp only at hp ihl ⊢;rw[K2,K0]at hp;simp only[ZhI,ZC hk,Cq1,hg,Bq0,Znw];rw[XQ Va,Zxr];by_cases hf:c.form=2
    ·have e:YT c=(c.text,c.defs)::c.defs.flatMap YT:=by rw[JB,hf];rfl
     have e':(YT c).map (·.1)=c.text::Y3 c.defs:=by rw[e];rfl
     rw[e'];have hlen:(YT c).length=(c.defs.flatMap YT).length+1:=by rw[e];rfl
     rw[hf,show((2:Int)==2)=true from rfl];simp only[Cq1];rw[app1 Va Va]
     have hgd:∀(k:Z->O Xa),((gd (!bad) (some c) default).bind fun x57=>(gd (!bad) (ZkV F pl x57.text) default).bind fun x66=>k (bad||x66))=k (bad||decide (c.text∈pl)):=fun k=>by
      cases bad
      ·simp only[Ge,Zbd,Bq0];rw[has_eq F pl c.text Va Va];rfl
      ·rfl
     have h2:=hih c hc hf ⟨s.channels,s.many,s.at_,pl++[c.text],bad||decide (c.text∈pl)⟩ (by simp;omega);refine(hgd (fun b=>(n1 (⟨s.channels,s.many,s.at_,pl++[c.text],b⟩,c.defs)).bind fun x93=>nx (((k+1:Nat):Int),x93.channels,x93.many,x93.at_,x93.places,x93.bad))).trans ?_;rw[h2,Bq0];refine(ihl (pl++[c.text]++Y3 c.defs,_) ?_).trans ?_
     ·show(pl++[c.text]++Y3 c.defs).length+_<=1000;simp only[K0,Y3,JT,List.length_singleton];omega
     ·dsimp only
      have eN:WM (fun x=>decide (x∈pl)) (c.text::Y3 c.defs++Y3 rest)=(!decide (c.text∈pl)&&(WM (fun s=>decide (s∈pl)||decide (s=c.text)) (Y3 c.defs)&&WM (fun s=>(decide (s∈pl)||decide (s=c.text))||decide (s∈Y3 c.defs)) (Y3 rest))):=by
       rw[GY];show(_&&WM _ _)=_;rw[ZoO]
      rw[eN,ZKt,ZGT];have eL:pl++[c.text]++Y3 c.defs++Y3 rest=pl++(c.text::Y3 c.defs++Y3 rest):=by simp
      rw[eL];cases bad<;>cases decide (c.text∈pl)<;>cases WM (fun s=>decide (s∈pl)||decide (s=c.text)) (Y3 c.defs)<;>simp
    ·have e:YT c=[]:=by
      rw[JB,show(c.form==2)=false by simpa using hf];rfl
     rw[show(c.form==2)=false by simpa using hf,e];rw[e]at hp;simp only[Cq0,List.map_nil,G5];exact ihl (pl,bad) (by simpa using hp)
def ZNG{α:Type}{l:U α}{x:α}(h:l.length<=900000):app 24 l [x]=some (l++[x]):=app1 h Va
def Zli{F:Nat}(hF:10000000000000000000<=F):∀n (l:U Za) (out:U (U Za)),(l.flatMap YT).length<=n->l.length<=60->(∀sp∈l.flatMap YT,OkS sp)->out.length+(l.flatMap YT).length<=1000->∀Fr,n<Fr ->
 loop Fr (ZjU F) (out,l)=some (out++(l.flatMap YT).map (·.2)):=by
 intro n
 induction n using Nat.strongRecOn with
 | _ n ih=>
   intro l out hn hl Zpe hs1 Fr hFr;obtain⟨G,rfl⟩:∃G,Fr=G+1:=⟨Fr-1,by omega⟩
   rw[ZH]
   have hih:∀c∈l,c.form=2->∀o:U (U Za),o.length+(YT c).length<=1001->loop G (ZjU F) (o,c.defs)=some (o++(c.defs.flatMap YT).map (·.2)):=fun c hc hf s hs=>by
    have e:YT c=(c.text,c.defs)::c.defs.flatMap YT:=by rw[JB,hf];rfl
    have hle:(YT c).length<=(l.flatMap YT).length:=Za3 hc;have hm:∀sp∈YT c,OkS sp:=fun sp hsp=>Zpe sp (Q2.2 ⟨c,hc,hsp⟩)
    rw[e]at hle hm hs;simp only[Kf]at hle hs;exact ih (n-1) Va c.defs s Va (hm (c.text,c.defs) (by simp)).1 (fun sp hsp=>hm sp (by simp[hsp])) Va G Va
   generalize loop G (ZjU F)=n1 at hih;unfold ZjU;dsimp only;refine ZM (body:=ZhC l n1) (fun(k:Nat)(p:U (U Za))=>(p,(k:Int))) l (fun rest p=>p.length+(rest.flatMap YT).length<=1000) (fun rest p=>some (p++(rest.flatMap YT).map (·.2))) (F:=F) ?_ ?_ Va out hs1
   ·intro p nx _;simp only[ZhC,Zp,Cq0];simp
   ·intro k c rest p nx hc hk hg hp ihl;rw[K2,K0]at hp;simp only[ZhC,ZC hk,Cq1,hg,Bq0,Znv];rw[XQ Va,K2];by_cases hf:c.form=2
    ·have e:YT c=(c.text,c.defs)::c.defs.flatMap YT:=by rw[JB,hf];rfl
     have hlen:(YT c).length=(c.defs.flatMap YT).length+1:=by rw[e];rfl
     rw[hf,show((2:Int)==2)=true from rfl];simp only[Cq1];rw[ZNG Va,Bq0,hih c hc hf _ (by simp only[K0,JT,List.length_singleton];omega),Bq0,ihl _ (by simp only[K0,JT,List.length_singleton];omega),e];simp
    ·have e:YT c=[]:=by
      rw[JB,show(c.form==2)=false by simpa using hf];rfl
     rw[show(c.form==2)=false by simpa using hf,e];rw[e]at hp;simp only[Cq0,G5];exact ihl p (by simpa using hp)
abbrev RJ:=MM×Z
def rj(s:RJ)(e:Y×ZI):RJ:=match ZR s.1 e.1 with
 | none=>(s.1++[e],s.2)
 | some w=>(s.1,s.2||w.many !=e.2.many||w.at_ !=e.2.at_)
def Jv(pl:U Y)(s:RJ):Xa:=⟨s.1.map (·.1),s.1.map (·.2.many),s.1.map (·.2.at_),pl,s.2⟩
def Zw6(s:RJ)(e:Y×ZI):(rj s e).1.length<=s.1.length+1:=by
 unfold rj;cases ZR s.1 e.1<;>simp
def Zhr(l:U (Y×ZI)):∀s:RJ,(l.foldl rj s).1.length<=s.1.length+l.length:=by
 induction l with
 | nil=>intro s;simp
 | cons e l ih=>intro s;rw[Gn];have:=ih (rj s e);have:=Zw6 s e;simp only[Kf];omega
def Zlz(m:MM)(e:Y×ZI)(h:ZR m e.1=none):ZR (m++[e])=upd (ZR m) e:=by
 funext x;unfold upd;by_cases hx:x=e.1
 ·rw[if_pos hx,hx,U9 h];simp[ZR,Yg]
 ·rw[if_neg hx];cases e2:ZR m x with
  | some v=>exact ZaE e2
  | none=>rw[U9 e2];simp[ZR,Yg];exact fun z=>hx z.symm
def ZGx(l:U (Y×ZI)):∀s:RJ,(l.foldl rj s).2=(s.2 || !JW (ZR s.1) l)/\∀x,(ZR (l.foldl rj s).1 x).isSome=((ZR s.1 x).isSome||l.any fun e=>decide (x=e.1)):=by
 induction l with
 | nil=>intro s;simp[JW]
 | cons e l ih=>
   intro s;obtain⟨m,b⟩:=s;rw[Gn];obtain⟨i1,i2⟩:=ih (rj (m,b) e);rw[i1];cases h:ZR m e.1 with
   | none=>
     have hr:rj (m,b) e=(m++[e],b):=by unfold rj;rw[h]
     rw[hr]at i2 ⊢;refine⟨?_,fun x=>?_⟩
     ·simp only[JW,okE,h,Zlz m e h];rfl
     ·rw[i2 x,Zlz m e h,List.any_cons];unfold upd;by_cases hx:x=e.1
      ·simp[hx]
      ·simp[hx]
   | some w=>
     have hr:rj (m,b) e=(m,b||w.many !=e.2.many||w.at_ !=e.2.at_):=by unfold rj;rw[h]
     rw[hr]at i2 ⊢;refine⟨?_,fun x=>?_⟩
     ·simp only[JW,okE,h,Option.getD_some,Option.isSome_some,KK,Gm];by_cases hw:w=e.2
      ·have hu:upd (ZR m) e=ZR m:=by
        funext x;unfold upd;by_cases hx:x=e.1
        ·rw[if_pos hx,hx,h,hw]
        ·rw[if_neg hx]
       rw[hu,(eqS w e.2).2 hw,hw];simp
      ·have:Ua w e.2=false:=by
        cases hq:Ua w e.2
        ·rfl
        ·exact absurd ((eqS w e.2).1 hq) hw
       rw[this]
       have:(w.many !=e.2.many||w.at_ !=e.2.at_)=true:=by
        obtain⟨wa,wm⟩:=w;obtain⟨t,ea,em⟩:=e;by_cases h1:wm=em
        ·have:wa≠ea:=fun h2=>hw (by rw[h1,h2])
         simp[this]
        ·simp[h1]
       rw[Bool.or_assoc b,this];simp
     ·rw[i2 x,List.any_cons];by_cases hx:x=e.1
      ·rw[hx,h];simp
      ·simp[hx]
def Zcd{α β:Type}{l:U α}{k:Nat}{x:α}(f:α->β)(h:ZN l (k:Int)=some x):ZN (l.map f) (k:Int)=some (f x):=by
 rw[Ze0]at h ⊢;rw[GQ,h];rfl
def join_one{F:Nat}(hF:10000000000000000000<=F)(pl:U Y)(s:RJ)(m:Yk)(a:Nat)(hl:s.1.length<=800000):ZFw F (Jv pl s) m (a:Int)=some (Jv pl (rj s (ev a m))):=by
 obtain⟨tr,b⟩:=s
 have:=ZM (body:=ZhH (Jv pl (tr,b)) m (a:Int)) (fun(k:Nat)(_:Unit)=>(k:Int)) tr (fun _ _=>True) (fun rest _=>some (match ZR rest m.text with
  | none=>Jv pl (tr++[ev a m],b)
  | some w=>Jv pl (tr,b||w.many !=(m.names.length:Int)||w.at_ !=(a:Int)))) (F:=F) ?_ ?_ (by dsimp only at hl;omega) () trivial
 ·refine this.trans ?_;unfold rj;show some (match ZR tr m.text with|none=>_|some w=>_)=some (Jv pl (match ZR tr m.text with|none=>_|some w=>_));cases ZR tr m.text<;>rfl
 ·intro _ nx _;have e:(((Jv pl (tr,b)).channels.length:Nat):Int)=((tr.length:Nat):Int):=by simp[Jv]
  simp only[ZhH,e,Zp,Cq0,Jv];dsimp only at hl;rw[app1 (by rw[JT];omega) Va,Bq0,app1 (by rw[JT];omega) Va,Bq0,app1 (by rw[JT];omega) Va,Bq0];simp[ZR,Yg,ev]
 ·intro k x rest _ nx hx hk hg _ ihl;have e:(((Jv pl (tr,b)).channels.length:Nat):Int)=((tr.length:Nat):Int):=by simp[Jv]
  simp only[ZhH,e,ZC hk,Cq1];simp only[Jv];rw[Zcd (·.1) hg,Bq0]
  have hmg:ZR (x::rest) m.text=if x.1=m.text then some x.2 else ZR rest m.text:=by
   unfold ZR;rw[Yg];by_cases h:x.1=m.text
   ·simp[h]
   ·simp only[h,if_false];cases Yg rest m.text<;>rfl
  rw[hmg];dsimp only at hl;by_cases h:x.1=m.text
  ·rw[decide_eq_true h,if_pos h,Cq1,Zcd (fun e:Y×ZI=>e.2.many) hg,Zcd (fun e:Y×ZI=>e.2.at_) hg];cases b
   ·simp only[Ge,Zbd,Bq0,Gm];cases x.2.many !=(m.names.length:Int)<;>rfl
   ·rfl
  ·rw[decide_eq_false h,if_neg h,Cq0,XQ Va];exact ihl () trivial
def stJ(pl:U Y)(s:RJ):(U Y)×(U Int)×(U Int)×(U Y)×Z:=(s.1.map (·.1),s.1.map (·.2.many),s.1.map (·.2.at_),pl,s.2)
def ZrJ{F:Nat}(hF:10000000000000000000<=F)(pl:U Y)(all:U (U Za))(cl:U Za)(i j:Nat)(c:Za)(hi:ZN all (i:Int)=some cl)(hj:ZN cl (j:Int)=some c)(hc:c.joins.length<=3)(nx:Int×(U Y)×(U Int)×(U Int)×(U Y)×Z->O (Xa×Z))(s:RJ)(hs:s.1.length<=100000):
 loop F (Zjp F all (i:Int) (j:Int) nx) (0,stJ pl s)=nx (YX ((j:Int)+1),stJ pl ((c.joins.map (ev i)).foldl rj s)):=by
 refine ZM (body:=Zjp F all (i:Int) (j:Int) nx) (fun(k:Nat)(s:RJ)=>((k:Int),stJ pl s)) c.joins (fun rest s=>s.1.length+rest.length<=200000) (fun rest s=>nx (YX ((j:Int)+1),stJ pl ((rest.map (ev i)).foldl rj s))) (F:=F) ?_ ?_ Va s Va
 ·intro s nx' _;simp only[Zjp,hi,hj,Bq0,stJ,Zp,Cq0];rfl
 ·intro k m rest s nx' hm hk hg hp ih;simp only[Kf]at hp;simp only[Zjp,hi,hj,Bq0,stJ,ZC hk,Cq1,hg];have:=join_one hF pl s m i Va;unfold Jv at this;rw[this,Bq0,XQ Va];exact ih (rj s (ev i m)) (by have:=Zw6 s (ev i m);omega)
def ZrI{F:Nat}(hF:10000000000000000000<=F)(pl:U Y)(all:U (U Za))(cl:U Za)(i:Nat)(hi:ZN all (i:Int)=some cl)(hl:cl.length<=60)(hc:∀c∈cl,c.joins.length<=3)(nx:Int×(U Y)×(U Int)×(U Int)×(U Y)×Z->O (Xa×Z))(s:RJ)(hs:s.1.length<=50000):
 loop F (Zjq F all (i:Int) nx) (0,stJ pl s)=nx (YX ((i:Int)+1),stJ pl (((WT cl).map (ev i)).foldl rj s)):=by
 refine ZM (body:=Zjq F all (i:Int) nx) (fun(k:Nat)(s:RJ)=>((k:Int),stJ pl s)) cl (fun rest s=>s.1.length+3*rest.length<=60000) (fun rest s=>nx (YX ((i:Int)+1),stJ pl (((WT rest).map (ev i)).foldl rj s))) (F:=F) ?_ ?_ Va s Va
 ·intro s nx' _;simp only[Zjq,hi,Bq0,stJ,Zp,Cq0];rfl
 ·intro k c rest s nx' hm hk hg hp ih;simp only[Kf]at hp;have h3:=hc c hm;simp only[Zjq,hi,Bq0,stJ,ZC hk,Cq1];have:=ZrJ hF pl all cl i k c hi hg h3 nx' s Va;unfold stJ at this;rw[this,XQ Va];refine(ih _ ?_).trans ?_
  ·have:=Zhr (c.joins.map (ev i)) s;rw[JT]at this;omega
  ·unfold WT;rw[K2,GC,GJ];rfl
def Zo0{F:Nat}(hF:10000000000000000000<=F)(pl:U Y)(Qt:U Spt)(hn:Qt.length<=61)(hs:∀sp∈Qt,OkS sp)(b:Z):
 loop F (Zjr F (Qt.map (·.2))) (0,[],[],[],pl,b)=loop F (Zd9 F (((evJ 0 Qt).foldl rj ([],b)).1.map (·.1)) (((evJ 0 Qt).foldl rj ([],b)).1.map (·.2.many)) (((evJ 0 Qt).foldl rj ([],b)).1.map (·.2.at_)) pl) (0,((evJ 0 Qt).foldl rj ([],b)).2):=by
 have:=ZiS (body:=Zjr F (Qt.map (·.2))) (fun(k:Nat)(s:RJ)=>((k:Int),stJ pl s)) Qt (fun _ rest s=>s.1.length+180*rest.length<=12000) (fun k rest s=>loop F (Zd9 F (((evJ k rest).foldl rj s).1.map (·.1)) (((evJ k rest).foldl rj s).1.map (·.2.many)) (((evJ k rest).foldl rj s).1.map (·.2.at_)) pl) (0,((evJ k rest).foldl rj s).2)) (F:=F) ?_ ?_ Va ([],b) (by simp;omega)
 ·exact this
 ·intro s nx _;have e:(((Qt.map (·.2)).length:Nat):Int)=(Qt.length:Int):=by simp
  simp only[Zjr,e,stJ,Zp,Cq0];rfl
 ·intro k sp rest s nx hm hk hg hp ih;simp only[Kf]at hp;have e:(((Qt.map (·.2)).length:Nat):Int)=(Qt.length:Int):=by simp
  obtain⟨h1,h2⟩:=hs sp hm;simp only[Zjr,e,stJ,ZC hk,Cq1];have:=ZrI hF pl (Qt.map (·.2)) sp.2 k (Zcd (·.2) hg) h1 (fun c hc=>(h2 c hc).1) nx s Va;unfold stJ at this;rw[this,XQ Va]
  have hj:(WT sp.2).length<=3*sp.2.length:=by
   have:∀l:U Za,(∀c∈l,OkC c)->(WT l).length<=3*l.length:=by
    intro l
    induction l with
    | nil=>intro _;simp[WT]
    | cons c l ih=>
      intro h;have a:=ih fun d hd=>h d (Ks _ hd)
      have b:=(h c (by simp)).1;unfold WT at a ⊢;rw[K2,K0,Kf];omega
   exact this _ h2
  refine(ih _ ?_).trans ?_
  ·have:=Zhr ((WT sp.2).map (ev k)) s;rw[JT]at this;omega
  ·simp only[evJ,GJ]
def ZoZ{F:Nat}(hF:10000000000000000000<=F)(pl:U Y)(hpl:pl.length<=1000)(s:RJ)(hs:s.1.length<=100000):
 loop F (Zd9 F (s.1.map (·.1)) (s.1.map (·.2.many)) (s.1.map (·.2.at_)) pl) (0,s.2)=some (Jv pl (s.1,s.2||s.1.any fun e=>decide (e.1∈pl)),!(s.2||s.1.any fun e=>decide (e.1∈pl))):=by
 refine ZM (body:=Zd9 F (s.1.map (·.1)) (s.1.map (·.2.many)) (s.1.map (·.2.at_)) pl) (fun(k:Nat)(b:Z)=>((k:Int),b)) s.1 (fun _ _=>True) (fun rest b=>some (Jv pl (s.1,b||rest.any fun e=>decide (e.1∈pl)),!(b||rest.any fun e=>decide (e.1∈pl)))) (F:=F) ?_ ?_ Va s.2 trivial
 ·intro b nx _;have e:(((s.1.map (·.1)).length:Nat):Int)=(s.1.length:Int):=by simp
  simp only[Zd9,e,Zp,Cq0];simp[Jv]
 ·intro k x rest b nx hx hk hg _ ih;have e:(((s.1.map (·.1)).length:Nat):Int)=(s.1.length:Int):=by simp
  simp only[Zd9,e,ZC hk,Cq1,Zcd (·.1) hg];rw[XQ Va,List.any_cons];cases b
  ·simp only[Ge,Zbd,Bq0,Gm];rw[has_eq F pl x.1 Va Va,Bq0];exact ih _ trivial
  ·exact ih true trivial
def ZM5{s:Xa}{a b:Z}(h:a=b):∃s',some (s,a)=some (s',b):=⟨s,by rw[h]⟩
def Zv7{F:Nat}(hF:10000000000000000000<=F)(l:U Za)(hl:OkS (E0,l))(hs:∀sp∈l.flatMap YT,OkS sp)(hn:(l.flatMap YT).length<=60):∃s,ZpW F l=some (s,AgW l):=by
 have h1:ZzS F (Xa.mk [] [] [] [] false) l=_:=Zlw hF _ l ⟨[],[],[],[],false⟩ Vb hl.1 hs (by show 0+_<=1000;omega) F Va;have h2:ZzN F [l] l=_:=Zli hF _ l [l] Vb hl.1 hs (by show 1+_<=1000;omega) F Va;unfold ZpW ZzR;rw[h1,Bq0,h2];simp only[Bq0,G5,Gm,Gc,decide_false];have hsp: [l]++(l.flatMap YT).map (·.2)=((E0,l)::l.flatMap YT).map (·.2):=rfl
 have hok:∀sp∈(E0,l)::l.flatMap YT,OkS sp:=fun sp hsp=>by
  rcases Kx.1 hsp with rfl|h
  ·exact hl
  ·exact hs sp h
 have hlen:(evJ 0 ((E0,l)::l.flatMap YT)).length<=20000:=by
  have:∀(Qt:U Spt)(a:Nat),(∀sp∈Qt,OkS sp)->(evJ a Qt).length<=180*Qt.length:=by
   intro Qt
   induction Qt with
   | nil=>intro a _;simp[evJ]
   | cons sp r ih=>
     intro a h;have i:=ih (a+1) fun x hx=>h x (Ks _ hx)
     obtain⟨h1,h2⟩:=h sp (by simp)
     have hj:∀l:U Za,(∀c∈l,OkC c)->(WT l).length<=3*l.length:=by
      intro l
      induction l with
      | nil=>intro _;simp[WT]
      | cons c l ih=>
        intro h;have a:=ih fun d hd=>h d (Ks _ hd)
        have b:=(h c (by simp)).1;unfold WT at a ⊢;rw[K2,K0,Kf];omega
     have:=hj sp.2 h2;simp only[evJ,K0,JT,Kf];omega
  have:=this _ 0 hok;simp only[Kf]at this;omega
 have hnm:(Y3 l).length<=60:=by unfold Y3;rw[JT];exact hn
 rw[hsp,Zo0 hF _ _ (by simp only[Kf];omega) hok];have hr:=Zhr (evJ 0 ((E0,l)::l.flatMap YT)) ([],!WM (fun _=>false) (Y3 l));rw[ZoZ hF _ Va _ (by simp only[Gx]at hr;omega)];obtain⟨r1,r2⟩:=ZGx (evJ 0 ((E0,l)::l.flatMap YT)) ([],!WM (fun _=>false) (Y3 l))
 have ha:(((evJ 0 ((E0,l)::l.flatMap YT)).foldl rj ([],!WM (fun _=>false) (Y3 l))).1.any fun e=>decide (e.1∈Y3 l))=(evJ 0 ((E0,l)::l.flatMap YT)).any fun e=>decide (e.1∈Y3 l):=by
  rw[GD,Zun _ (fun x=>decide (x∈Y3 l))];simp only[r2];rw[GO]
  constructor
  ·rintro⟨k,h,hg⟩;have:((evJ 0 ((E0,l)::l.flatMap YT)).any fun e=>decide (k=e.1))=true:=by simpa[ZR,Yg]using h
   obtain⟨e,he,hk⟩:=GO.1 this;rw[decide_eq_true_eq]at hk;exact⟨e,he,by rw[<-hk];exact hg⟩
  ·rintro⟨e,he,hg⟩;refine⟨e.1,?_,hg⟩;rw[Gt];right;exact GO.2 ⟨e,he,by simp⟩
 have h0:(ZR ([]:MM))=fun _=>none:=by funext x;rfl
 rw[ha,r1];refine ZM5 ?_;unfold AgW;rw[h0];cases WM (fun _=>false) (Y3 l)<;>cases JW (fun _=>none) (evJ 0 ((E0,l)::l.flatMap YT))<;>simp
def Zht{p:Part}(h60:(pre p).length<=60)(hs:(pre p).all U2=true){x:Term}(hx:Part.pr x∈pre p):OkS (E0,x.defs)/\(∀sp∈x.defs.flatMap YT,OkS sp)/\(x.defs.flatMap YT).length<=60:=by
 have hle:=XV hx
 have hlen:((x.defs.map Part.cl).flatMap pre).length<=(pre (.pr x)).length:=by
  rw[Xe];show _<=((x.args.map Part.ex++x.defs.map Part.cl++x.kids.map Part.pr).flatMap pre).length+1;rw[J1,J1,K0,K0];omega
 have hc:∀c∈x.defs,(pre (.cl c)).all U2=true:=fun c hc=>by
  rw[Kd]at hs ⊢;exact fun y hy=>hs y (XR (ZQ (Y4 hc) hy) hx)
 have h1:=Zae x.defs;have h2:=Zxg x.defs;refine⟨⟨by show x.defs.length<=60;omega,fun c h=>ZdY (Kd.1 (hc c h) _ (Yh _))⟩,fun sp hsp=>?_,by omega⟩;obtain⟨c,h,hsp⟩:=Q2.1 hsp;exact ZB8 60 c (by have:=ZX (Y4 h);omega) Va (hc c h) sp hsp
def Zfx{F:Nat}(hF:10000000000000000000<=F)(t:Term)(hs:Lo (.pr t))(hFp:(pre (.pr t)).length<=F):ZjJ F t=some (bif Qy AgW (.pr t) then 0 else 2):=
 Zsx hF AgW t hs hFp fun h60 hsh x hx _=>by obtain⟨a,b,c⟩:=Zht h60 hsh hx;exact ZsL hF x.defs a b c
def ZDJ{F:Nat}(hF:10000000000000000000<=F)(t:Term)(hs:Lo (.pr t))(hFp:(pre (.pr t)).length<=F):ZDo F t=some (bif Qy AgW (.pr t) then 0 else 2):=
 ZvS hF AgW t hs hFp fun h60 hsh x hx _=>by obtain⟨a,b,c⟩:=Zht h60 hsh hx;exact Zv7 hF x.defs a b c
def J7{p:Part}(h:Qy AgW p=true):(pre p).all U2=true/\(pre p).length<=60:=by
 unfold Qy at h;simp only[Ba0,decide_eq_true_eq]at h;exact⟨h.1.1.2,h.1.1.1⟩
def Ztx{F:Nat}(hF:10000000000000000000<=F)(t:Term)(hs:Lo (.pr t))(hFp:(pre (.pr t)).length<=F):Zsk F t=some (bif Qy AgW (.pr t) then(((pre (.pr t)).length:Int),0) else(0,2)):=by
 unfold Zsk;rw[Zfx hF t hs hFp,Bq0];cases h:Qy AgW (.pr t)
 ·rfl
 ·have hs:Sm (.pr t):=⟨by have:=(J7 h).2;unfold BS;omega,hs⟩
  have h60:=(J7 h).2;have:=count_eq hF _ (.pr t) hs Vb F Va 0 Va;have e:loop F (Zbg F) (Part.pr t,0)=_:=this;simp only[Cq1];show(loop F (Zbg F) (Part.pr t,0)).bind _=_;rw[e,G0];rfl
def ZwY{t:Term}(h:Zai t=true):t.kids.length<=2/\t.defs.length<=5/\((t.op==3)=true->t.kids.length=2):=by
 unfold Zai at h;rw[Ba0]at h;have h:=h.1;unfold szs at h;cases h1:(t.op==1)||(t.op==7) with
 | true=>
   rw[h1,Cq1]at h;simp only[Ba0,beq_iff_eq]at h;refine⟨by omega,by omega,fun h3=>?_⟩;simp only[Gt,beq_iff_eq]at h1 h3;omega
 | false=>
   rw[h1,Cq0]at h;cases h2:t.op==2 with
   | true=>
     rw[h2,Cq1]at h;simp only[Ba0,beq_iff_eq]at h;refine⟨by omega,by omega,fun h3=>?_⟩;simp only[beq_iff_eq]at h2 h3;omega
   | false=>
     rw[h2,Cq0]at h;cases h3:t.op==3 with
     | true=>
       rw[h3,Cq1]at h;simp only[Ba0,beq_iff_eq]at h;exact⟨by omega,by omega,fun _=>by omega⟩
     | false=>
       rw[h3,Cq0]at h;refine⟨?_,?_,fun z=>by cases z⟩
       all_goals
        cases h4:t.op==4 with
        | true=>
          rw[h4,Cq1]at h;simp only[Ba0,beq_iff_eq,decide_eq_true_eq]at h;omega
        | false=>
          rw[h4,Cq0]at h;cases h5:t.op==5 with
          | true=>
            rw[h5,Cq1]at h;simp only[Ba0,beq_iff_eq]at h;omega
          | false=>
            rw[h5,Cq0]at h;simp only[Ba0,beq_iff_eq]at h;omega
def ZwZ{c:Za}(h:Wp c=true):c.kids.length=1/\c.defs.length<=5:=by
 unfold Wp at h;rw[Ba0]at h;obtain⟨h0,h⟩:=h;refine⟨by simpa using h0,?_⟩;cases h2:c.form==2 with
 | true=>rw[h2,Cq1]at h;simp only[Ba0,decide_eq_true_eq]at h;omega
 | false=>rw[h2,Cq0]at h;simp only[Ba0,beq_iff_eq]at h;omega
def Ztm:∀(n:Nat)(t:Term),SizeOf.sizeOf t<=n->(pts t).length<=(pre (.pr t)).length:=by
 intro n
 induction n with
 | zero=>intro t hn;obtain⟨op,tx,ags,ds,ks⟩:=t;simp only[Term.mk.sizeOf_spec]at hn;omega
 | succ n ih=>
   intro t hn;rw[JZ];have hp:=YQ (.pr t);cases h1:t.op==1 with
   | true=>exact Gi _
   | false=>
     rw[Cq0];cases h3:t.op==3 with
     | false=>rw[Cq0];exact hp
     | true=>
       rw[Cq1,Xe];show _<=((t.args.map Part.ex++t.defs.map Part.cl++t.kids.map Part.pr).flatMap pre).length+1;rw[J1,K0,List.flatMap_map,List.length_flatMap,List.length_flatMap (l:=t.kids)];have:=Zh7 (l:=t.kids) (f:=fun k=>(pts k).length) (g:=fun k=>(pre (.pr k)).length) fun k hk=>ih k (by have:=K6 hk;omega)
       omega
def ZGF{p:Part}(h:(pre p).all U2=true)(hl:(pre p).length<=60):okN p:=by
 intro q hq;have hs:=Kd.1 h q hq;have hn:=XV hq;cases q with
 | ex e=>trivial
 | cl c=>
   obtain⟨a,b⟩:=ZwZ (c:=c) hs;exact⟨a,by unfold BS;omega⟩
 | pr t=>
   obtain⟨a,b,c⟩:=ZwY (t:=t) hs;have:=Ztm _ t Vb;exact⟨by unfold BS;omega,by unfold BS;omega,c,by unfold BS;omega⟩
def ZiC{t:Term}(h:Qy AgW (.pr t)=true):okN (.pr t):=ZGF (J7 h).1 (J7 h).2
def ZDE{k p:Part}(h:k∈ZE p):dep k<=dep p:=by
 rw[Zj8 p];have:=ZiM (x:=dep k) (l:=(ZE p).map dep) (Jn.2 ⟨k,h,rfl⟩);omega
def ZDD{x:Part}:∀p:Part,x∈pre p->dep x<=dep p:=by
 refine QI fun p ih hx=>?_
 rw[pre_eq]at hx;rcases Kx.1 hx with rfl|hx
 ·exact K1 _
 ·obtain⟨k,hk,hx⟩:=Q2.1 hx;exact KB (ih k hk hx) (ZDE hk)
def Zy5{A:U Za->Z}{x p:Part}(h:Qy A p=true)(hx:x∈pre p):Qy A x=true:=by
 unfold Qy at h ⊢;simp only[Ba0,decide_eq_true_eq,Kd]at h ⊢;obtain⟨⟨⟨h1,h2⟩,h3⟩,h4⟩:=h;exact⟨⟨⟨KB (XV hx) h1,fun q hq=>h2 q (XR hq hx)⟩,KB (ZDD p hx) h3⟩,fun q hq=>h4 q (XR hq hx)⟩
def ZmF:∀(n:Nat)(t:Term),SizeOf.sizeOf t<=n->∀x∈pts t,Part.pr x∈pre (.pr t):=by
 intro n
 induction n with
 | zero=>intro t hn;obtain⟨op,tx,ags,ds,ks⟩:=t;simp only[Term.mk.sizeOf_spec]at hn;omega
 | succ n ih=>
   intro t hn x hx;rw[JZ]at hx;cases h1:t.op==1 with
   | true=>rw[h1,Cq1]at hx;cases hx
   | false=>
     rw[h1,Cq0]at hx;cases h3:t.op==3 with
     | true=>
       rw[h3,Cq1,Q2]at hx;obtain⟨k,hk,hx⟩:=hx;exact ZQ (UL hk) (ih k (by have:=K6 hk;omega) x hx)
     | false=>
       rw[h3,Cq0,G7]at hx;subst hx;exact Yh _
def ZoF{A:U Za->Z}{t x:Term}(h:Qy A (.pr t)=true)(hx:x∈pts t):Qy A (.pr x)=true:=Zy5 h (ZmF _ t Vb x hx)
def Zxe{t x:Term}(h:Lo (.pr t))(hx:x∈pts t):Lo (.pr x):=fun q hq=>h q (XR hq (ZmF _ t Vb x hx))
def Zuw{p:Part}(h:Loc p)(hk:∀k∈ZE p,Lo k):Lo p:=by
 intro x hx;rw[pre_eq]at hx;rcases Kx.1 hx with rfl|hx
 ·exact h
 ·obtain⟨k,hk',hx⟩:=Q2.1 hx;exact hk k hk' x hx
def ZJj:∀l:U Term,(∀x∈l,Lo (.pr x))->Lo (.pr (X0 l)):=by
 intro l
 induction l with
 | nil=>intro _;rw[X0];exact Zuw ⟨Gi _,Gi _,Gi _,Gi _⟩ (fun k hk=>by simp[ZE]at hk)
 | cons t l ih=>
   intro h;cases l with
   | nil=>rw[X0];exact h t (by simp)
   | cons k l=>
     rw[X0];refine Zuw ⟨Gi _,Gi _,Gi _,by unfold BB;simp⟩ fun q hq=>?_
     simp only[ZE,List.map_nil,G5,G3,Kx,Gc,or_false]at hq;rcases hq with rfl|rfl
     ·exact h t (by simp)
     ·exact ih fun x hx=>h x (Ks _ hx)
def ZEg:∀p:Part,Lo p->match p with | .pr t=>Lo (.pr (lay t)) | .cl c=>Lo (.cl (XA c)) | .ex _=>True:=by
 refine QI fun p ih=>?_
 intro hl;cases p with
 | ex e=>trivial
 | cl c=>
   show Lo (.cl (XA c));have hc:=Lo.loc hl;obtain⟨c1,c2,c3,c4,c5⟩:=hc;rw[Kn];refine Zuw ⟨c1,c2,by rw[JT];exact c3,by rw[JT];exact c4,c5⟩ fun q hq=>?_
   simp only[ZE,Q1,Jn]at hq;rcases hq with⟨d,⟨d',hd,rfl⟩,rfl⟩|⟨k,⟨k',hk,rfl⟩,rfl⟩
   ·exact ih (.cl d') (Zbb hd) (hl.kid (Zbb hd))
   ·exact ih (.pr k') (Zb5 hk) (hl.kid (Zb5 hk))
 | pr t=>
   show Lo (.pr (lay t));rw[UK];refine ZJj _ fun y hy=>?_
   obtain⟨x,hx,rfl⟩:=Jn.1 hy;rw[JZ]at hx;cases h1:t.op==1 with
   | true=>rw[h1,Cq1]at hx;cases hx
   | false=>
     rw[h1,Cq0]at hx;cases h3:t.op==3 with
     | true=>
       rw[h3,Cq1,Q2]at hx;obtain⟨k,hk,hx⟩:=hx;have q:Lo (.pr (lay k)):=ih (.pr k) (UL hk) (hl.kid (UL hk));exact Zxe q (by rw[Zis];exact Jn.2 ⟨x,hx,rfl⟩)
     | false=>
       rw[h3,Cq0,G7]at hx;subst hx;have hs:solo x=true:=by unfold solo;rw[h1,h3];rfl
       rw[KO hs];obtain⟨c1,c2,c3,c4⟩:=Lo.loc hl;refine Zuw ⟨c1,c2,by unfold KW;rw[JT];exact c3,by unfold KW;rw[JT];exact c4⟩ fun q hq=>?_
       simp only[KW,ZE,Q1,Jn]at hq;rcases hq with(⟨e,he,rfl⟩|⟨d,⟨d',hd,rfl⟩,rfl⟩) | ⟨k,⟨k',hk,rfl⟩,rfl⟩
       ·exact hl.kid (by simp only[ZE,Q1,Jn];exact .inl (.inl ⟨e,he,rfl⟩))
       ·exact ih (.cl d') (Zb3 hd) (hl.kid (Zb3 hd))
       ·exact ih (.pr k') (UL hk) (hl.kid (UL hk))
def ZA7{t:Term}(h:Lo (.pr t)):Lo (.pr (lay t)):=ZEg (.pr t) h
abbrev CH:=U Y×MN
def dj(s:CH)(t:Y):CH:=bif has s.2 t then s else(s.1++[t],Xw s.2 t true)
def ZIy(s:CH)(t:Y):(dj s t).1.length<=s.1.length+1:=by
 unfold dj;cases has s.2 t<;>simp
def ZnH(l:U Y):∀s:CH,(l.foldl dj s).1.length<=s.1.length+l.length:=by
 induction l with
 | nil=>intro s;simp
 | cons t l ih=>intro s;rw[Gn];have:=ih (dj s t);have:=ZIy s t;simp only[Kf];omega
structure DS where
 c:CH
 pl:List ByteArray
 at_:Nat
def J3(s:DS)(sp:Spt):DS:=⟨((WT sp.2).map (·.text)).foldl dj s.c,bif decide (0<s.at_) then s.pl++[sp.1] else s.pl,s.at_+1⟩
abbrev RD:=Z×(U Y)×(U Y)×Int×MN
def Zu2(s:DS):RD:=(true,s.c.1,s.pl,(s.at_:Int),s.c.2)
def Zqk{F:Nat}(hF:10000000000000000000<=F)(i:Int)(nx:Int×(U Y)×MN->O RD)(x:Za)(hx:x.joins.length<=3)(s:CH)(hs:s.1.length<=100000):
 loop F (Zgh i nx x) (0,s.1,s.2)=nx (YX (i+1),((x.joins.map (·.text)).foldl dj s).1,((x.joins.map (·.text)).foldl dj s).2):=by
 refine ZM (body:=Zgh i nx x) (fun(k:Nat)(s:CH)=>((k:Int),s.1,s.2)) x.joins (fun rest s=>s.1.length+rest.length<=200000) (fun rest s=>nx (YX (i+1),((rest.map (·.text)).foldl dj s).1,((rest.map (·.text)).foldl dj s).2)) (F:=F) ?_ ?_ Va s Va
 ·intro s nx' _;simp only[Zgh,Zp,Cq0];rfl
 ·intro j y rest s nx' hy hj hg hp ih;simp only[Kf]at hp;simp only[Zgh,Zjs,ZC hj,Cq1,hg,Bq0,ZbW];rw[XQ Va,app1 Va Va];simp only[Bq0,G3,Gn];cases hh:has s.2 y.text
  ·have e:dj s y.text=(s.1++[y.text],Xw s.2 y.text true):=by unfold dj;rw[hh];rfl
   rw[e];exact ih (s.1++[y.text],Xw s.2 y.text true) (by simp;omega)
  ·have e:dj s y.text=s:=by unfold dj;rw[hh];rfl
   rw[e];exact ih s Va
def Zqh{F:Nat}(hF:10000000000000000000<=F)(l rules:U Za)(a:Nat)(ha:a<=2000)(n1:Y×(U Za)×(U Y)×(U Y)×Int×MN->O RD)(pl:U Y)(hr:rules.length<=60)(hx:∀x∈rules,x.joins.length<=3)(s:CH)(hs:s.1.length<=50000):
 loop F (Zgi F l (a:Int) n1 rules pl) (0,s.1,s.2)=loop F (Zcj l n1) (0,((a+1:Nat):Int),(((WT rules).map (·.text)).foldl dj s).1,pl,(((WT rules).map (·.text)).foldl dj s).2):=by
 refine ZM (body:=Zgi F l (a:Int) n1 rules pl) (fun(k:Nat)(s:CH)=>((k:Int),s.1,s.2)) rules (fun rest s=>s.1.length+3*rest.length<=60000) (fun rest s=>loop F (Zcj l n1) (0,((a+1:Nat):Int),(((WT rest).map (·.text)).foldl dj s).1,pl,(((WT rest).map (·.text)).foldl dj s).2)) (F:=F) ?_ ?_ Va s Va
 ·intro s nx' _;simp only[Zgi,Zp,Cq0,KK];rw[XQ Va];rfl
 ·intro j y rest s nx' hy hj hg hp ih;simp only[Kf]at hp;have h3:=hx y hy;simp only[Zgi,ZC hj,Cq1,hg,Bq0];rw[Zqk hF _ _ y h3 s Va,XQ Va];refine(ih ((y.joins.map (·.text)).foldl dj s) ?_).trans ?_
  ·have:=ZnH (y.joins.map (·.text)) s;rw[JT]at this;omega
  ·unfold WT;rw[K2,GC,GJ]
def Zm0{l:U Za}(h:∀c∈l,OkC c):(WT l).length<=3*l.length:=by
 induction l with
 | nil=>simp[WT]
 | cons c l ih=>
   have a:=ih fun d hd=>h d (Ks _ hd)
   have b:=(h c (by simp)).1;unfold WT at a ⊢;rw[K2,K0,Kf];omega
def ZuR(s:DS){sp:Spt}(h:OkS sp):(J3 s sp).c.1.length<=s.c.1.length+180/\(J3 s sp).pl.length<=s.pl.length+1/\(J3 s sp).at_=s.at_+1:=by
 obtain⟨h1,h2⟩:=h;refine⟨?_,?_,rfl⟩
 ·have:=ZnH ((WT sp.2).map (·.text)) s.c;have:=Zm0 h2;rw[JT]at *;show((WT sp.2).map (·.text) |>.foldl dj s.c).1.length<=_;omega
 ·unfold J3;dsimp only;cases decide (0<s.at_)<;>simp
def Zgc:∀(l:U Spt)(s:DS),(∀sp∈l,OkS sp)->(l.foldl J3 s).c.1.length<=s.c.1.length+180*l.length/\(l.foldl J3 s).pl.length<=s.pl.length+l.length/\(l.foldl J3 s).at_=s.at_+l.length
 | [],s,_=>by simp
 | sp::l,s,h=>by
   have a:=ZuR s (h sp (by simp));have b:=Zgc l (J3 s sp) fun x hx=>h x (Ks _ hx)
   rw[Gn];simp only[Kf];omega
def Zut(s:DS)(n:Nat):Prop:=s.c.1.length+180*n<=20000/\s.pl.length+n<=1000/\s.at_+n<=1000
def ZDG{F:Nat}(hF:10000000000000000000<=F):∀n (nm:Y) (l:U Za) (s:DS),(l.flatMap YT).length<=n->OkS (nm,l)->(∀sp∈l.flatMap YT,OkS sp)->Zut s ((l.flatMap YT).length+1)->∀Fr,n<Fr ->
 loop Fr (Zch F) (nm,l,s.c.1,s.pl,(s.at_:Int),s.c.2)=some (Zu2 (((nm,l)::l.flatMap YT).foldl J3 s)):=by
 intro n
 induction n using Nat.strongRecOn with
 | _ n ih=>
   intro nm l s hn hok Zpe hs1 Fr hFr;obtain⟨G,rfl⟩:∃G,Fr=G+1:=⟨Fr-1,by omega⟩
   rw[ZH]
   have hih:∀c∈l,c.form=2->∀s:DS,Zut s (YT c).length->loop G (Zch F) (c.text,c.defs,s.c.1,s.pl,(s.at_:Int),s.c.2)=some (Zu2 ((YT c).foldl J3 s)):=fun c hc hf s hs=>by
    have e:YT c=(c.text,c.defs)::c.defs.flatMap YT:=by rw[JB,hf];rfl
    have hle:(YT c).length<=(l.flatMap YT).length:=Za3 hc;have hm:∀sp∈YT c,OkS sp:=fun sp hsp=>Zpe sp (Q2.2 ⟨c,hc,hsp⟩)
    rw[e]at hle hm hs ⊢;simp only[Kf]at hle hs;exact ih (n-1) Va c.text c.defs s Va (hm _ (by simp)) (fun sp hsp=>hm sp (by simp[hsp])) hs G Va
   generalize loop G (Zch F)=n1 at hih;have hok':=hok;obtain⟨hl,hoc⟩:=hok;dsimp only at hl hoc;obtain⟨r1,r2,r3⟩:=hs1
   have hb3:∀s:DS,Zut s (l.flatMap YT).length->loop F (Zcj l n1) (0,(s.at_:Int),s.c.1,s.pl,s.c.2)=some (Zu2 ((l.flatMap YT).foldl J3 s)):=fun s hs=>by
    refine ZM (body:=Zcj l n1) (fun(k:Nat)(s:DS)=>((k:Int),(s.at_:Int),s.c.1,s.pl,s.c.2)) l (fun rest s=>Zut s (rest.flatMap YT).length) (fun rest s=>some (Zu2 ((rest.flatMap YT).foldl J3 s))) (F:=F) ?_ ?_ Va s hs
    ·intro s nx _;simp only[Zcj,Zp,Cq0];rfl
    ·intro k c rest s nx hc hk hg hp ihl;simp only[Zcj,ZC hk,Cq1,hg,Bq0];rw[XQ Va];rw[K2,K0]at hp;rw[K2,GJ];obtain⟨p1,p2,p3⟩:=hp;rcases(hoc c hc).2 with h1|⟨h2,_⟩
     ·have e:YT c=[]:=by rw[JB,h1];rfl
      rw[h1];rw[e]at p1 p2 p3 ⊢;simp only[Gx,G0]at p1 p2 p3;exact ihl s ⟨p1,p2,p3⟩
     ·rw[h2];simp only[Int.reduceBEq,Cq1];rw[hih c hc h2 s ⟨by omega,by omega,by omega⟩,Bq0];have hfl:=Zgc (YT c) s fun sp hsp=>Zpe sp (Q2.2 ⟨c,hc,hsp⟩)
      exact ihl ((YT c).foldl J3 s) ⟨by omega,by omega,by omega⟩
   have hj2:∀pl:U Y,pl.length+(l.flatMap YT).length<=1000->(Zci F l s.c.1 (s.at_:Int) s.c.2 n1 (l.filter fun c=>c.form==1)) pl=some (Zu2 ((l.flatMap YT).foldl J3 ⟨((WT l).map (·.text)).foldl dj s.c,pl,s.at_+1⟩)):=fun pl hpl=>by
    unfold Zci;have hfl:(l.filter fun c=>c.form==1).length<=l.length:=List.length_filter_le _ _;rw[Zqh hF l _ s.at_ Va n1 pl Va (fun x hx=>(hoc x (GX.1 hx).1).1) s.c Va,ZiY hoc];have h1:=ZnH ((WT l).map (·.text)) s.c;have h2:=Zm0 hoc;rw[JT]at h1;exact hb3 ⟨((WT l).map (·.text)).foldl dj s.c,pl,s.at_+1⟩ ⟨by dsimp only;omega,by dsimp only;omega,by dsimp only;omega⟩
   unfold Zch;dsimp only;have:=ZM (body:=Zju F nm l s.c.1 s.pl (s.at_:Int) s.c.2 n1) (fun(k:Nat)(a:U Za)=>((k:Int),a)) l (fun rest a=>a.length+rest.length<=60) (fun rest a=>(bif decide ((s.at_:Int)>0) then(app 16 s.pl [nm]).bind fun Zwr=>(Zci F l s.c.1 (s.at_:Int) s.c.2 n1 (a++rest.filter fun c=>c.form==1)) Zwr else(Zci F l s.c.1 (s.at_:Int) s.c.2 n1 (a++rest.filter fun c=>c.form==1)) s.pl)) (F:=F) ?_ ?_ Va [] (by simpa using hl)
   ·refine this.trans ?_;rw[app1 (l:=s.pl) (x:=nm) Va Va];simp only[G5,Bq0,gt0];rw[hj2 s.pl Va,hj2 (s.pl++[nm]) (by simp only[K0,List.length_singleton];omega)];show _=some (Zu2 ((l.flatMap YT).foldl J3 (J3 s (nm,l))));unfold J3;cases decide (0<s.at_)<;>rfl
   ·intro a nx _;simp only[Zju,Zp,Cq0,List.filter_nil,Gk]
   ·intro k c rest a nx hc hk hg hp ihl;simp only[Kf]at hp;simp only[Zju,ZC hk,Cq1,hg,Bq0,Zjt];rw[XQ Va];cases hf:c.form==1
    ·rw[List.filter_cons_of_neg (by simp[hf])];exact ihl a Va
    ·rw[List.filter_cons_of_pos (p:=fun c:Za=>c.form==1) hf];simp only[Cq1];rw[app1 Va Va,Bq0,ihl _ (by simp;omega),Gf];rfl
def ZxL(m:MM)(x:Y):(ZR m x).isSome=decide (x∈m.map (·.1)):=by
 induction m with
 | nil=>simp[ZR,Yg]
 | cons e m ih=>
   have hmg:ZR (e::m) x=if e.1=x then some e.2 else ZR m x:=by
    unfold ZR;rw[Yg];by_cases h:e.1=x
    ·simp[h]
    ·simp only[h,if_false];cases Yg m x<;>rfl
   rw[hmg];by_cases h:e.1=x
   ·rw[if_pos h];simp[h]
   ·rw[if_neg h,ih];have:x≠e.1:=fun z=>h z.symm
    simp[this]
def chans(J':U (Y×ZI)):∀(s:RJ)(d:CH),s.1.map (·.1)=d.1->(∀x,has d.2 x=decide (x∈d.1))->(J'.foldl rj s).1.map (·.1)=((J'.map (·.1)).foldl dj d).1:=by
 induction J' with
 | nil=>intro s d h _;exact h
 | cons e J' ih=>
   intro s d h hd;rw[Gn,G3,Gn];have hm:(ZR s.1 e.1).isSome=has d.2 e.1:=by rw[ZxL,hd,h]
   refine ih _ _ ?_ ?_
   ·unfold rj dj;cases hg:ZR s.1 e.1 with
    | none=>
      have hz:has d.2 e.1=false:=by rw[<-hm,hg];rfl
      rw[hz];simp[h]
    | some w=>
      have hz:has d.2 e.1=true:=by rw[<-hm,hg];rfl
      rw[hz];exact h
   ·intro x;unfold dj;cases hz:has d.2 e.1
    ·simp only[Cq0];rw[ZaL];show(has d.2 x||decide (x=e.1))=decide (x∈d.1++[e.1]);rw[hd x];by_cases h1:x∈d.1<;>by_cases h2:x=e.1<;>simp[h1,h2]
    ·exact hd x
def Zl2:∀(l:U Spt)(a:Nat),(evJ a l).map (·.1)=l.flatMap fun sp=>(WT sp.2).map (·.text)
 | [],_=>rfl
 | sp::l,a=>by
   simp only[evJ,GC,GE,K2,Zl2 l (a+1)]
   rfl
def Znc:∀(l:U Spt)(s:DS),(l.foldl J3 s).c=(l.flatMap fun sp=>(WT sp.2).map (·.text)).foldl dj s.c
 | [],_=>rfl
 | sp::l,s=>by rw[Gn,Znc l,K2,GJ];rfl
def ZpI:∀(l:U Spt)(s:DS),0<s.at_->(l.foldl J3 s).pl=s.pl++l.map (·.1)
 | [],s,_=>by simp
 | sp::l,s,h=>by
   rw[Gn,ZpI l _ (by unfold J3;dsimp only;omega)];unfold J3;rw[decide_eq_true h];simp
def QN(l:U Za):U Y×U Y:=(((((E0,l)::l.flatMap YT).flatMap fun sp=>(WT sp.2).map (·.text)).foldl dj ([],[])).1,Y3 l)
def Zz8{F:Nat}(hF:10000000000000000000<=F)(l:List Za)(hl:OkS (E0,l))(hs:∀sp∈l.flatMap YT,OkS sp)(hn:(l.flatMap YT).length<=60):Zsd F l=some (QN l):=by
 unfold Zsd;have h:=ZDG hF _ E0 l ⟨([],[]),[],0⟩ Vb hl hs ⟨by dsimp only[List.length_nil];omega,by dsimp only[List.length_nil];omega,by dsimp only;omega⟩ F Va;have e:loop F (Zch F) (E0,l,[],[],0,[])=_:=h;rw[e,Bq0];show some (_,_)=some (QN l);unfold QN;rw[Znc,List.foldl_cons,ZpI _ _ (Nat.succ_pos _)]
 rfl
def ZDF{F:Nat}(hF:10000000000000000000<=F)(l:U Za)(hl:OkS (E0,l))(hs:∀sp∈l.flatMap YT,OkS sp)(hn:(l.flatMap YT).length<=60):∃s b,ZpW F l=some (s,b)/\(s.channels,s.places)=QN l:=by
 have h1:ZzS F (Xa.mk [] [] [] [] false) l=_:=Zlw hF _ l ⟨[],[],[],[],false⟩ Vb hl.1 hs (by show 0+_<=1000;omega) F Va;have h2:ZzN F [l] l=_:=Zli hF _ l [l] Vb hl.1 hs (by show 1+_<=1000;omega) F Va;unfold ZpW ZzR;rw[h1,Bq0,h2];simp only[Bq0,G5,Gm,Gc,decide_false];have hsp: [l]++(l.flatMap YT).map (·.2)=((E0,l)::l.flatMap YT).map (·.2):=rfl
 have hok:∀sp∈(E0,l)::l.flatMap YT,OkS sp:=fun sp hsp=>by
  rcases Kx.1 hsp with rfl|h
  ·exact hl
  ·exact hs sp h
 have hlen:∀(Qt:U Spt)(a:Nat),(∀sp∈Qt,OkS sp)->(evJ a Qt).length<=180*Qt.length:=by
  intro Qt
  induction Qt with
  | nil=>intro a _;simp[evJ]
  | cons sp r ih=>
    intro a h;have i:=ih (a+1) fun x hx=>h x (Ks _ hx)
    obtain⟨h1,h2⟩:=h sp (by simp);have:=Zm0 h2;simp only[evJ,K0,JT,Kf];omega
 have hl2:=hlen _ 0 hok;simp only[Kf]at hl2;have hnm:(Y3 l).length<=60:=by unfold Y3;rw[JT];exact hn
 rw[hsp,Zo0 hF _ _ (by simp only[Kf];omega) hok];have hr:=Zhr (evJ 0 ((E0,l)::l.flatMap YT)) ([],!WM (fun _=>false) (Y3 l));rw[ZoZ hF _ Va _ (by simp only[Gx]at hr;omega)];refine⟨_,_,rfl,?_⟩;unfold Jv QN;dsimp only;rw[chans _ _ ([],[]) rfl (fun x=>rfl),Zl2]
def Zdt:U Y->Y->U Y
 | [],s=>[s]
 | x::l,s=>bif ZgJ x s then x::Zdt l s else s::x::l
def Zdr(out B:U Y)(s:Y):U Y:=if s∈B\/s∈out then out else Zdt out s
def Ztc{l:U Y}{a b:Nat}(h:a<=b)(hb:b<=l.length):slL l (a:Int) (b:Int)=some ((l.take b).drop a):=by
 unfold slL;rw[decide_eq_true Va,decide_eq_true Va,decide_eq_true Va];simp
def ZiN{l:U Y}{s x:Y}:x∈Zdt l s↔x=s\/x∈l:=by
 induction l with
 | nil=>simp[Zdt]
 | cons y l ih=>
   unfold Zdt;cases ZgJ y s
   ·simp
   ·simp only[Cq1,Kx,ih]
    constructor
    ·rintro(h|h|h)<;>simp[h]
    ·rintro(h|h|h)<;>simp[h]
def ZxY(l:U Y)(s:Y):(Zdt l s).length=l.length+1:=by
 induction l with
 | nil=>rfl
 | cons y l ih=>
   unfold Zdt;cases ZgJ y s
   ·rfl
   ·simp only[Cq1,Kf,ih]
def put_eq{F:Nat}(hF:10000000000000000000<=F)(out B:U Y)(s:Y)(ho:out.length<=100000)(hB:B.length<=800000):Zt7 F out B s=some (Zdr out B s):=by
 unfold Zt7 Zdr;rw[has_eq F B s Va Va,Bq0];by_cases h1:s∈B
 ·rw[decide_eq_true h1,if_pos (.inl h1)];rfl
 ·rw[decide_eq_false h1];simp only[Ge,Zbd];rw[has_eq F out s Va Va,Bq0];by_cases h2:s∈out
  ·rw[decide_eq_true h2,if_pos (.inr h2)];rfl
  ·rw[decide_eq_false h2,if_neg (by simp[h1,h2])];simp only[Bool.or_false,Cq0]
   have fin:∀k:Nat,k<=out.length->((slL out (k:Int) (out.length:Int)).bind fun z15=>(app 16 [s] z15).bind fun z19=>(slL out 0 (k:Int)).bind fun z25=>(app 16 ([]:U Y) z25).bind fun z29=>(app 16 z29 z19).bind fun z33=>some z33)=some (out.take k++s::out.drop k):=fun k hk=>by
    have e0:slL out 0 (k:Int)=some ((out.take k).drop 0):=Ztc (a:=0) (Gi _) hk;rw[Ztc hk Vb,e0];simp only[Bq0,List.take_length,List.drop_zero];have a1:app 16 [s] (out.drop k)=some ([s]++out.drop k):=QL (by simp;omega) Va;have a2:app 16 ([]:U Y) (out.take k)=some ([]++out.take k):=QL (by simp;omega) Va;rw[a1,a2];simp only[Bq0,G5];have a3:app 16 (out.take k) ([s]++out.drop k)=some (out.take k++([s]++out.drop k)):=QL (by simp;omega) Va;rw[a3];rfl
   have:=ZiS (body:=ZhG out s) (fun(k:Nat)(_:Unit)=>(k:Int)) out (fun k rest _=>rest=out.drop k) (fun k rest _=>some (out.take k++Zdt rest s)) (F:=F) ?_ ?_ Va () (by simp)
   ·simpa using this
   ·intro _ nx _;simp only[ZhG,Zp,Zy0,Bq0,Gq,Cq0];rw[fin _ Vb];simp[Zdt]
   ·intro k x rest _ nx hx hk hg hp ih;simp only[ZhG,ZC hk,Zbd,hg,Bq0,Gd];have hd:out.drop k=out[k]::out.drop (k+1):=List.drop_eq_getElem_cons hk;rw[hd]at hp;obtain⟨rfl,rfl⟩:=List.cons.inj hp;rw[XQ Va];unfold Zdt;cases hc:ZgJ out[k] s
    ·simp only[Cq0];rw[fin k Va,hd]
    ·simp only[Cq1];rw[ih () rfl,List.take_succ_eq_append_getElem hk,Gf];rfl
def nm1:Part->U Y
 | .ex e=>bif e.op==2 then [e.text] else []
 | _=>[]
def nmE(e:Zi):U Y:=(pre (.ex e)).flatMap nm1
def Zrw(e:Zi):nmE e=(bif e.op==2 then [e.text] else [])++e.kids.flatMap nmE:=by
 unfold nmE;rw[pre_eq,K2];show nm1 (.ex e)++_=nm1 (.ex e)++_;congr 1;show((e.kids.map Part.ex).flatMap pre).flatMap nm1=_;rw[List.flatMap_assoc,List.flatMap_map]
def puts(B:U Y)(l:U Y)(out:U Y):U Y:=l.foldl (fun o s=>Zdr o B s) out
def ZeC(o B:U Y)(s:Y):(Zdr o B s).length<=o.length+1:=by
 unfold Zdr;split
 ·omega
 ·rw[ZxY];omega
def Ziq(B:U Y):∀(l o:U Y),(puts B l o).length<=o.length+l.length
 | [],o=>by simp[puts]
 | s::l,o=>by
   have:=Ziq B l (Zdr o B s);have:=ZeC o B s;show(puts B l (Zdr o B s)).length<=_;simp only[Kf];omega
def ZgS(B a b o:U Y):puts B (a++b) o=puts B b (puts B a o):=GJ
def ZmO(e:Zi):(nmE e).length<=(pre (.ex e)).length:=by
 unfold nmE;generalize pre (.ex e)=l
 induction l with
 | nil=>simp
 | cons p l ih=>
   rw[K2,K0,Kf]
   have:(nm1 p).length<=1:=by
    cases p with
    | ex e=>show(bif e.op==2 then [e.text] else []).length<=1;cases e.op==2<;>simp
    | _=>exact Gi _
   omega
def Zr8{F:Nat}(hF:10000000000000000000<=F)(B:U Y)(hB:B.length<=800000):∀n e (out:U Y),(pre (.ex e)).length<=n->n<=60->out.length+(nmE e).length<=20000->∀Fr,n<=Fr->loop Fr (ZpS F) (out,B,e)=some (puts B (nmE e) out):=by
 intro n
 induction n with
 | zero=>intro e out hn;have:=YQ (.ex e);omega
 | succ n ih=>
   intro e out hn h60 ho Fr hFr;obtain⟨G,rfl⟩:∃G,Fr=G+1:=⟨Fr-1,by omega⟩
   rw[ZH];have hih:∀x∈e.kids,∀o:U Y,o.length+(nmE x).length<=20000->loop G (ZpS F) (o,B,x)=some (puts B (nmE x) o):=fun x hx o ho=>ih x o (by have:=ZX (XY hx);omega) Va ho G Va
   have hkl:e.kids.length<(pre (.ex e)).length:=by have:=ZaJ (.ex e);simpa[ZE]using this
   generalize loop G (ZpS F)=n1 at hih
   have hj:∀o:U Y,o.length+(e.kids.flatMap nmE).length<=20000->Znh F B e n1 o=some (puts B (e.kids.flatMap nmE) o):=fun o ho=>by
    unfold Znh;refine ZM (body:=Zni B e n1) (fun(k:Nat)(o:U Y)=>(o,(k:Int))) e.kids (fun rest o=>o.length+(rest.flatMap nmE).length<=20000) (fun rest o=>some (puts B (rest.flatMap nmE) o)) (F:=F) ?_ ?_ Va o ho
    ·intro o nx _;simp only[Zni,Zp,Cq0];rfl
    ·intro k x rest o nx hx hk hg hp ihl;rw[K2,K0]at hp;simp only[Zni,ZC hk,Cq1,hg,Bq0,hih x hx o Va];rw[XQ Va,K2,ZgS];exact ihl _ (by have:=Ziq B (nmE x) o;omega)
   rw[Zrw,ZgS];rw[Zrw,K0]at ho;unfold ZpS;dsimp only;cases h2:e.op==2<;>rw[h2]at ho
   ·exact hj out Va
   ·simp only[Cq1,List.length_singleton]at ho ⊢;rw[put_eq hF out B e.text Va hB,Bq0];exact hj _ (by have:=ZeC out B e.text;omega)
def ZJ(js:U Yk):U Y:=js.flatMap (·.names)
def bnd(t:Term)(B:U Y):U Y:=bif t.op==4 then B++((QN t.defs).1++(QN t.defs).2) else B
abbrev Evt:=Y×U Y
def Qd(p:Part)(B:U Y):U Evt:=
 match p with
 | .ex e=>(nmE e).map fun s=>(s,B)
 | .pr t=>(if t.text=E0 then [] else [(t.text,B)])++((t.args.flatMap nmE).map fun s=>(s,B))++(t.defs.attach.flatMap (fun c=>Qd (.cl c.1) (bnd t B))++t.kids.attach.flatMap (fun k=>Qd (.pr k.1) (bnd t B)))
 | .cl c=>c.defs.attach.flatMap (fun d=>Qd (.cl d.1) B)++c.kids.attach.flatMap (fun k=>Qd (.pr k.1) (B++ZJ c.joins))
termination_by pz p
decreasing_by
 ·exact Zb4 (Y4 c.2)
 ·exact Zb4 (XF k.2)
 ·exact Zb4 (YK d.2)
 ·exact Zb4 (X5 k.2)
def Zaq(t:Term)(B:U Y):Qd (.pr t) B=(if t.text=E0 then [] else [(t.text,B)])++((t.args.flatMap nmE).map fun s=>(s,B))++(t.defs.flatMap (fun c=>Qd (.cl c) (bnd t B))++t.kids.flatMap (fun k=>Qd (.pr k) (bnd t B))):=by
 rw[Qd,JM t.defs fun c=>Qd (.cl c) (bnd t B),JM t.kids fun k=>Qd (.pr k) (bnd t B)]
def Zee(c:Za)(B:U Y):Qd (.cl c) B=c.defs.flatMap (fun d=>Qd (.cl d) B)++c.kids.flatMap (fun k=>Qd (.pr k) (B++ZJ c.joins)):=by
 rw[Qd,JM c.defs fun d=>Qd (.cl d) B,JM c.kids fun k=>Qd (.pr k) (B++ZJ c.joins)]
def Qc(l:U Evt)(out:U Y):U Y:=l.foldl (fun o e=>Zdr o e.2 e.1) out
def UI(a b:U Evt)(o:U Y):Qc (a++b) o=Qc b (Qc a o):=GJ
def ZuZ(B:U Y)(l:U Y)(o:U Y):Qc (l.map fun s=>(s,B)) o=puts B l o:=by
 unfold Qc puts;rw[List.foldl_map]
def Zay:∀(l:U Evt)(o:U Y),(Qc l o).length<=o.length+l.length
 | [],o=>by simp[Qc]
 | e::l,o=>by
   have:=Zay l (Zdr o e.2 e.1);have:=ZeC o e.2 e.1;show(Qc l (Zdr o e.2 e.1)).length<=_;simp only[Kf];omega
def ZxN{o B:U Y}{s x:Y}:x∈Zdr o B s↔x∈o\/(x=s/\s∉B):=by
 unfold Zdr;by_cases h:s∈B\/s∈o
 ·rw[if_pos h]
  constructor
  ·exact .inl
  ·rintro(h1|⟨rfl,h1⟩)
   ·exact h1
   ·rcases h with h|h
    ·exact absurd h h1
    ·exact h
 ·rw[if_neg h,ZiN];have h1:s∉B:=fun z=>h (.inl z)
  constructor
  ·rintro(h2|h2)
   ·exact .inr ⟨h2,h1⟩
   ·exact .inl h2
  ·rintro(h2|⟨h2,_⟩)
   ·exact .inr h2
   ·exact .inl h2
def Zc1:∀(l:U Evt)(o:U Y)(x:Y),x∈Qc l o↔x∈o\/∃e∈l,x=e.1/\e.1∉e.2
 | [],o,x=>by simp[Qc]
 | e::l,o,x=>by
   show x∈Qc l (Zdr o e.2 e.1)↔_;rw[Zc1 l,ZxN]
   constructor
   ·rintro((h|h) | ⟨e',he,h⟩)
    ·exact .inl h
    ·exact .inr ⟨e,by simp,h⟩
    ·exact .inr ⟨e',by simp[he],h⟩
   ·rintro(h|⟨e',he,h⟩)
    ·exact .inl (.inl h)
    ·rcases Kx.1 he with rfl|he
     ·exact .inl (.inr h)
     ·exact .inr ⟨e',he,h⟩
def Zj9{l:U Za}(hl:OkS (E0,l))(hs:∀sp∈l.flatMap YT,OkS sp)(hn:(l.flatMap YT).length<=60):(QN l).1.length<=10980/\(QN l).2.length<=60:=by
 have hok:∀sp∈(E0,l)::l.flatMap YT,OkS sp:=fun sp hsp=>by
  rcases Kx.1 hsp with rfl|h
  ·exact hl
  ·exact hs sp h
 have h:=Zgc _ ⟨([],[]),[],0⟩ hok;rw[Znc]at h;simp only[Kf,Gx]at h;refine⟨?_,by unfold QN Y3;rw[JT];exact hn⟩;exact KB h.1 Va
def ZAm{F:Nat}(hF:10000000000000000000<=F)(l:U Za)(hl:OkS (E0,l))(hs:∀sp∈l.flatMap YT,OkS sp)(hn:(l.flatMap YT).length<=60):ZDm F l=some ((QN l).1++(QN l).2):=by
 obtain⟨s,b,e1,e2⟩:=ZDF hF l hl hs hn;obtain⟨n1,n2⟩:=Zj9 hl hs hn;have q1:s.channels=(QN l).1:=by rw[<-e2]
 have q2:s.places=(QN l).2:=by rw[<-e2]
 unfold ZDm;rw[e1];simp only[Bq0,q1,q2];have a1:app 16 ([]:U Y) (QN l).1=some ([]++(QN l).1):=QL (by simp;omega) Va;have a2:app 16 (QN l).1 (QN l).2=some ((QN l).1++(QN l).2):=QL Va Va;rw[a1,Bq0,G5,a2];rfl
def Zvl{F:Nat}(hF:10000000000000000000<=F)(js:U Yk)(h3:js.length<=3)(hn:∀m∈js,m.names.length<=3):ZzJ F js=some (ZJ js):=by
 have:=ZM (body:=Ze8 js) (fun(k:Nat)(s:U Y)=>(s,(k:Int))) js (fun rest s=>s.length+3*rest.length<=100) (fun rest s=>some (s++ZJ rest)) (F:=F) ?_ ?_ Va [] (by simp;omega)
 ·show loop F (Ze8 js) ([],0)=_
  simpa using this
 ·intro s nx _;simp only[Ze8,Zp,Cq0];simp[ZJ]
 ·intro k m rest s nx hm hk hg hp ih;simp only[Kf]at hp;have h:=hn m hm;simp only[Ze8,ZC hk,Cq1,hg,Bq0];have a1:app 16 s m.names=some (s++m.names):=QL Va Va;rw[a1,Bq0,XQ Va,ih _ (by rw[K0];omega)];unfold ZJ;rw[K2,Gf]
def Zfq(p:Part):∀B,(Qd p B).length<=(pre p).length:=by
 induction p using QI with
 | h p ih=>
   intro B
   have hfl:∀{α:Type}(l:U α)(c:α->Part)(B:U Y),(∀x∈l,c x∈ZE p)->(l.flatMap fun x=>Qd (c x) B).length<=((l.map c).flatMap pre).length:=by
    intro α l c B
    induction l with
    | nil=>intro _;simp
    | cons x l ihl=>
      intro h;have a:=ih (c x) (h x (by simp)) B;have b:=ihl fun y hy=>h y (Ks _ hy)
      simp only[K2,G3,K0];omega
   cases p with
   | ex e=>rw[Qd,JT];exact ZmO e
   | pr t=>
     rw[Zaq,Xe];have h1:=hfl t.defs .cl (bnd t B) fun x hx=>Y4 hx
     have h2:=hfl t.kids .pr (bnd t B) fun x hx=>XF hx
     have h3:(t.args.flatMap nmE).length<=((t.args.map Part.ex).flatMap pre).length:=by
      generalize t.args=l
      induction l with
      | nil=>simp
      | cons x l ihl=>have:=ZmO x;simp only[K2,G3,K0];omega
     show _<=((t.args.map Part.ex++t.defs.map Part.cl++t.kids.map Part.pr).flatMap pre).length+1;rw[J1,J1];have h4:(if t.text=E0 then([]:U Evt) else [(t.text,B)]).length<=1:=by split<;>simp
     simp only[K0,JT];omega
   | cl c=>
     rw[Zee,Xe];have h1:=hfl c.defs .cl B fun x hx=>YK hx
     have h2:=hfl c.kids .pr (B++ZJ c.joins) fun x hx=>X5 hx
     show _<=((c.defs.map Part.cl++c.kids.map Part.pr).flatMap pre).length+1;rw[J1];simp only[K0];omega
def Zo9:∀(js:U Yk)(ht hn:Y->Z),jW ht hn js=true->∀m∈js,m.names.length<=3
 | [],_,_,_,m,h=>by cases h
 | j::js,ht,hn,hw,m,h=>by
   unfold jW at hw;simp only[Ba0,decide_eq_true_eq]at hw;rcases Kx.1 h with rfl|h
   ·exact hw.1.2
   ·exact Zo9 js _ _ hw.2.2 m h
def KG{c:Za}(h:Wp c=true):c.joins.length<=3/\(∀m∈c.joins,m.names.length<=3)/\∃k,c.kids=[k]:=by
 have ok:=ZdY h;unfold Wp at h;rw[Ba0,beq_iff_eq]at h;refine⟨ok.1,?_,?_⟩
 ·rcases ok.2 with h1|⟨_,h2⟩
  ·have:(c.form==2)=false:=by rw[h1];rfl
   rw[this]at h;simp only[Cq0,Ba0]at h;exact Zo9 _ _ _ h.2.2
  ·rw[h2];intro m hm;cases hm
 ·match hk:c.kids,h.1 with
  | [k],_=>exact⟨k,rfl⟩
def OkB(B:U Y)(n:Nat):Prop:=B.length+12000*n<=750000
def RTx(next:U Y×U Y×Term->O (U Y))(t:Term):Prop:=∀o B,o.length+(pre (.pr t)).length<=20000->OkB B (pre (.pr t)).length->next (o,B,t)=some (Qc (Qd (.pr t) B) o)
def RC(F n:Nat):Prop:=∀(c:Za) next,(pre (.cl c)).all U2=true->(pre (.cl c)).length<=n->(∀t,Part.pr t∈pre (.cl c)->RTx next t)->∀Fr,n<=Fr->∀o B,o.length+(pre (.cl c)).length<=20000->OkB B (pre (.cl c)).length->loop Fr (ZjV F next) (o,B,c)=some (Qc (Qd (.cl c) B) o)
def ZEd{F n:Nat}(hF:10000000000000000000<=F)(h60:n<=60)(ih:RC F n):RC F (n+1):=by
 intro c next hs hn hnext Fr hFr o B ho hB;obtain⟨G,rfl⟩:∃G,Fr=G+1:=⟨Fr-1,by omega⟩
 rw[ZH];obtain⟨hj,hjn,k,hk1⟩:=KG (Kd.1 hs _ (Yh _))
 have e:(pre (.cl c)).length=((c.defs.map Part.cl).flatMap pre).length+(pre (.pr k)).length+1:=by
  rw[Xe];show((c.defs.map Part.cl++c.kids.map Part.pr).flatMap pre).length+1=_;rw[hk1,J1,K0];simp
 unfold OkB at hB
 have hih:∀x∈c.defs,∀o:U Y,o.length+(pre (.cl x)).length<=20000->loop G (ZjV F next) (o,B,x)=some (Qc (Qd (.cl x) B) o):=fun x hx o ho=>
  ih x next (by rw[Kd]at hs ⊢;exact fun y hy=>hs y (ZQ (YK hx) hy)) (by have:=ZX (YK hx);omega) (fun t ht=>hnext t (ZQ (YK hx) ht)) G Va o B ho (by have:=ZX (YK hx);unfold OkB;omega)
 generalize loop G (ZjV F next)=n1 at hih;have hcl:=Zae c.defs;have hkm:Part.pr k∈pre (.cl c):=ZQ (X5 (by rw[hk1];simp)) (Yh _)
 have hfin:∀o:U Y,o.length+(pre (.pr k)).length<=20000->((ZzJ F c.joins).bind fun x31=>(ZpU B x31).bind fun x37=>(ZN c.kids 0).bind fun x43=>(next (o,x37,x43)).bind fun x52=>some x52)=some (Qc (Qd (.pr k) (B++ZJ c.joins)) o):=fun o ho=>by
  have hjl:(ZJ c.joins).length<=9:=by
   have:∀js:U Yk,(∀m∈js,m.names.length<=3)->(ZJ js).length<=3*js.length:=by
    intro js
    induction js with
    | nil=>intro _;simp[ZJ]
    | cons m js ihj=>
      intro h;have a:=h m (by simp);have b:=ihj fun x hx=>h x (Ks _ hx)
      unfold ZJ at b ⊢;rw[K2,K0,Kf];omega
   have:=this c.joins hjn;omega
  have a1:ZpU B (ZJ c.joins)=some (B++ZJ c.joins):=by
   unfold ZpU;have a1:app 16 ([]:U Y) B=some ([]++B):=QL (by simp;omega) Va;have a2:app 16 B (ZJ c.joins)=some (B++ZJ c.joins):=QL Va Va;rw[a1,Bq0,G5,a2];rfl
  have g0:ZN c.kids 0=some k:=by rw[hk1];rfl
  rw[Zvl hF c.joins hj hjn,Bq0,a1,Bq0,g0,Bq0,hnext k hkm o _ ho (by unfold OkB;rw[K0];omega)];rfl
 unfold ZjV;dsimp only;have:=ZM (body:=ZhD F B c next n1) (fun(i:Nat)(o:U Y)=>(o,(i:Int))) c.defs (fun rest o=>o.length+((rest.map Part.cl).flatMap pre).length+(pre (.pr k)).length<=20000) (fun rest o=>some (Qc (rest.flatMap (fun d=>Qd (.cl d) B)++Qd (.pr k) (B++ZJ c.joins)) o)) (F:=F) ?_ ?_ Va o Va
 ·refine this.trans ?_;rw[Zee,hk1];simp
 ·intro o nx hp;simp only[ZhD,Zp,Cq0];exact hfin o (by simpa using hp)
 ·intro i x rest o nx hx hi hg hp ihl;rw[G3,K2,K0]at hp;simp only[ZhD,ZC hi,Cq1,hg,Bq0,hih x hx o Va];rw[XQ Va,K2,Gf,UI];exact ihl _ (by have:=Zay (Qd (.cl x) B) o;have:=Zfq (.cl x) B;omega)
def RT(F n:Nat):Prop:=∀t,(pre (.pr t)).all U2=true->(pre (.pr t)).length<=n->∀Fr,n<=Fr->RTx (loop Fr (ZjY F)) t
def ZJh{F:Nat}(hF:10000000000000000000<=F):∀n,n<=60->RC F n:=by
 intro n
 induction n with
 | zero=>intro _ c next _ hn;have:=YQ (.cl c);omega
 | succ n ih=>intro h;exact ZEd hF Va (ih Va)
def ZEc{F n:Nat}(hF:10000000000000000000<=F)(h60:n+1<=60)(ih:RT F n):RT F (n+1):=by
 intro t hs hn Fr hFr o B ho hB;obtain⟨G,rfl⟩:∃G,Fr=G+1:=⟨Fr-1,by omega⟩
 rw[ZH]
 have e:(pre (.pr t)).length=((t.args.map Part.ex).flatMap pre).length+(((t.defs.map Part.cl).flatMap pre).length+((t.kids.map Part.pr).flatMap pre).length)+1:=by
  rw[Xe];show((t.args.map Part.ex++t.defs.map Part.cl++t.kids.map Part.pr).flatMap pre).length+1=_;rw[J1,J1,K0,K0];omega
 have hall:∀{x},x∈pre (.pr t)->(pre x).all U2=true:=fun hx=>by
  rw[Kd]at hs ⊢;exact fun y hy=>hs y (XR hy hx)
 have hnext:∀x,Part.pr x∈pre (.pr t)->(pre (.pr x)).length<=n->RTx (loop G (ZjY F)) x:=fun x hx hl=>ih x (hall hx) hl G Va
 generalize loop G (ZjY F)=n1 at hnext;have hal:t.args.length<=((t.args.map Part.ex).flatMap pre).length:=by have:=Uy (t.args.map Part.ex);simpa using this
 have hdl:=Zae t.defs;have hkl:t.kids.length<=((t.kids.map Part.pr).flatMap pre).length:=by have:=Uy (t.kids.map Part.pr);simpa using this
 unfold OkB at hB
 have hk:∀B',B'.length+12000*((pre (.pr t)).length-1)<=750000->∀o:U Y,o.length+((t.kids.map Part.pr).flatMap pre).length<=20000->loop F (Zfg t n1 B') (o,0)=some (Qc (t.kids.flatMap fun k=>Qd (.pr k) B') o):=fun B' hB' o ho=>by
  refine ZM (body:=Zfg t n1 B') (fun(i:Nat)(o:U Y)=>(o,(i:Int))) t.kids (fun rest o=>o.length+((rest.map Part.pr).flatMap pre).length<=20000) (fun rest o=>some (Qc (rest.flatMap fun k=>Qd (.pr k) B') o)) (F:=F) ?_ ?_ Va o ho
  ·intro o nx _;simp only[Zfg,Zp,Cq0];rfl
  ·intro i x rest o nx hx hi hg hp ihl;rw[G3,K2,K0]at hp;have hkx:=ZX (XF hx);simp only[Zfg,ZC hi,Cq1,hg,Bq0,hnext x (ZQ (XF hx) (Yh _)) Va o B' Va (by unfold OkB;omega)];rw[XQ Va,K2,UI];exact ihl _ (by have:=Zay (Qd (.pr x) B') o;have:=Zfq (.pr x) B';omega)
 have hd:∀B',B'.length+12000*((pre (.pr t)).length-1)<=750000->∀o:U Y,o.length+((t.defs.map Part.cl).flatMap pre).length+((t.kids.map Part.pr).flatMap pre).length<=20000->Zdc F t n1 o B'=some (Qc (t.defs.flatMap (fun c=>Qd (.cl c) B')++t.kids.flatMap fun k=>Qd (.pr k) B') o):=fun B' hB' o ho=>by
  unfold Zdc;refine ZM (body:=ZhK F t n1 B') (fun(i:Nat)(o:U Y)=>(o,(i:Int))) t.defs (fun rest o=>o.length+((rest.map Part.cl).flatMap pre).length+((t.kids.map Part.pr).flatMap pre).length<=20000) (fun rest o=>some (Qc (rest.flatMap (fun c=>Qd (.cl c) B')++t.kids.flatMap fun k=>Qd (.pr k) B') o)) (F:=F) ?_ ?_ Va o ho
  ·intro o nx hp;simp only[ZhK,Zp,Cq0]
   simpa using hk B' hB' o (by simpa using hp)
  ·intro i x rest o nx hx hi hg hp ihl;rw[G3,K2,K0]at hp;have hkx:=ZX (Y4 hx);have hc:ZFu F n1 o B' x=some (Qc (Qd (.cl x) B') o):=ZJh hF n Va x n1 (hall (ZQ (Y4 hx) (Yh _))) Va (fun y hy=>hnext y (ZQ (Y4 hx) hy) (by have:=XV hy;omega)) F Va o B' Va (by unfold OkB;omega);simp only[ZhK,ZC hi,Cq1,hg,Bq0,hc];rw[XQ Va,K2,Gf,UI];exact ihl _ (by have:=Zay (Qd (.cl x) B') o;have:=Zfq (.cl x) B';omega)
 have hmid:∀o:U Y,o.length+((t.defs.map Part.cl).flatMap pre).length+((t.kids.map Part.pr).flatMap pre).length<=20000->(bif(t.op==4) then(ZDm F t.defs).bind fun x98=>(ZpU B x98).bind fun x104=>(Zdc F t n1 o) x104 else(Zdc F t n1 o) B)=some (Qc (t.defs.flatMap (fun c=>Qd (.cl c) (bnd t B))++t.kids.flatMap fun k=>Qd (.pr k) (bnd t B)) o):=fun o ho=>by
  unfold bnd;cases h4:t.op==4
  ·simp only[Cq0];exact hd B Va o ho
  ·simp only[Cq1];obtain⟨a,b,c⟩:=Zht Va hs (Yh (.pr t));obtain⟨n1',n2'⟩:=Zj9 a b c;have hlen:((QN t.defs).1++(QN t.defs).2).length<=11040:=by rw[K0];omega
   rw[ZAm hF t.defs a b c,Bq0]
   have a1:ZpU B ((QN t.defs).1++(QN t.defs).2)=some (B++((QN t.defs).1++(QN t.defs).2)):=by
    unfold ZpU;have a1:app 16 ([]:U Y) B=some ([]++B):=QL (by simp;omega) Va;have a2:app 16 B ((QN t.defs).1++(QN t.defs).2)=some (B++((QN t.defs).1++(QN t.defs).2)):=QL Va Va;rw[a1,Bq0,G5,a2];rfl
   rw[a1,Bq0];exact hd _ (by rw[K0];omega) o ho
 have ha:∀o:U Y,o.length+((t.args.map Part.ex).flatMap pre).length+((t.defs.map Part.cl).flatMap pre).length+((t.kids.map Part.pr).flatMap pre).length<=20000->ZhJ F B t n1 o=some (Qc (((t.args.flatMap nmE).map fun s=>(s,B))++(t.defs.flatMap (fun c=>Qd (.cl c) (bnd t B))++t.kids.flatMap fun k=>Qd (.pr k) (bnd t B))) o):=fun o ho=>by
  unfold ZhJ;refine ZM (body:=ZhL F B t n1) (fun(i:Nat)(o:U Y)=>(o,(i:Int))) t.args (fun rest o=>o.length+((rest.map Part.ex).flatMap pre).length+((t.defs.map Part.cl).flatMap pre).length+((t.kids.map Part.pr).flatMap pre).length<=20000) (fun rest o=>some (Qc (((rest.flatMap nmE).map fun s=>(s,B))++(t.defs.flatMap (fun c=>Qd (.cl c) (bnd t B))++t.kids.flatMap fun k=>Qd (.pr k) (bnd t B))) o)) (F:=F) ?_ ?_ Va o ho
  ·intro o nx hp;simp only[ZhL,Zp,Cq0]
   simpa using hmid o (by simpa using hp)
  ·intro i x rest o nx hx hi hg hp ihl;rw[G3,K2,K0]at hp;have hnx:=ZmO x;have hkx:=ZX (JG hx);have hc:ZMX F o B x=some (puts B (nmE x) o):=Zr8 hF B Va n x o Va Va Va F Va;simp only[ZhL,ZC hi,Cq1,hg,Bq0,hc];rw[XQ Va,K2,GC,Gf,UI,ZuZ];exact ihl _ (by have:=Ziq B (nmE x) o;omega)
 rw[Zaq,Gf,UI];unfold ZjY;dsimp only;by_cases ht:t.text=E0
 ·have:decide (t.text=(⟨#[]⟩:Y))=true:=decide_eq_true ht;rw[this,if_pos ht];exact ha o Va
 ·have:decide (t.text=(⟨#[]⟩:Y))=false:=decide_eq_false ht;rw[this,if_neg ht];simp only[Ge,Cq1];rw[put_eq hF o B t.text Va Va,Bq0];exact ha _ (by have:=ZeC o B t.text;omega)
def ZJg{F:Nat}(hF:10000000000000000000<=F):∀n,n<=60->RT F n:=by
 intro n
 induction n with
 | zero=>intro _ t _ hn;have:=YQ (.pr t);omega
 | succ n ih=>intro h;exact ZEc hF h (ih Va)
def Zy1{F:Nat}(hF:10000000000000000000<=F)(t:Term)(hs:(pre (.pr t)).all U2=true)(hn:(pre (.pr t)).length<=60):ZDi F t=some (Qc (Qd (.pr t) []) []):=by
 unfold ZDi;have h:=ZJg hF 60 Vb t hs hn F Va [] [] (by simp;omega) (by unfold OkB;simp;omega);have e:ZFx F [] [] t=_:=h;rw[e];rfl
def nam(x:Y):Zi:=⟨2,0,x,[]⟩
def note(fr:MB)(B:U Y)(x:Y):MB:=if x∈B then fr else Xw fr x true
def bindM(l:U Y)(m:NM):NM:=l.foldl (fun m x=>Xw m x (nam x)) m
def Zgv:∀(l:U Y)(m:NM)(x:Y),ZR (bindM l m) x=if x∈l then some (nam x) else ZR m x
 | [],m,x=>by simp[bindM]
 | y::l,m,x=>by
   show ZR (bindM l (Xw m y (nam y))) x=_;rw[Zgv l,Zc0];by_cases h1:x∈l
   ·simp[h1]
   ·by_cases h2:x=y
    ·subst h2;simp[h1]
    ·simp[h1,h2]
def bind_eq{F:Nat}(hF:10000000000000000000<=F)(l:U Y)(hl:l.length<=100000):ZjQ F l=some (bindM l []):=by
 unfold ZjQ;refine ZM (body:=ZjP l l) (fun(k:Nat)(m:NM)=>((k:Int),m)) l (fun _ _=>True) (fun rest m=>some (bindM rest m)) (F:=F) ?_ ?_ Va [] trivial
 ·intro m nx _;simp only[ZjP,Zp,Cq0];rfl
 ·intro k x rest m nx hx hk hg _ ih;simp only[ZjP,ZC hk,Cq1,hg,Bq0,ZtZ];rw[XQ Va];exact ih _ trivial
def notes(B:U Y)(l:U Y)(fr:MB):MB:=l.foldl (fun fr x=>note fr B x) fr
def ZeL(B a b:U Y)(fr:MB):notes B (a++b) fr=notes B b (notes B a fr):=GJ
def ZtC:∀(l:U Y)(s:CH),(∀x,has s.2 x=decide (x∈s.1))->∀x,x∈(l.foldl dj s).1↔x∈s.1\/x∈l
 | [],s,_,x=>by simp
 | y::l,s,h,x=>by
   rw[Gn]
   have hs:∀z,has (dj s y).2 z=decide (z∈(dj s y).1):=fun z=>by
    unfold dj;cases hz:has s.2 y
    ·simp only[Cq0];rw[ZaL];show(has s.2 z||decide (z=y))=decide (z∈s.1++[y]);rw[h z];by_cases h1:z∈s.1<;>by_cases h2:z=y<;>simp[h1,h2]
    ·exact h z
   rw[ZtC l _ hs x];have hy:has s.2 y=decide (y∈s.1):=h y
   have e:x∈(dj s y).1↔x∈s.1\/x=y:=by
    unfold dj;by_cases hm:y∈s.1
    ·rw[hy,decide_eq_true hm];exact⟨.inl,fun z=>z.elim id fun e=>e▸hm⟩
    ·rw[hy,decide_eq_false hm];simp
   rw[e];simp only[Kx]
   constructor
   ·rintro((h1|h1) | h1)<;>simp[h1]
   ·rintro(h1|h1|h1)<;>simp[h1]
def ZwM{l:U Za}{sp:Spt}(h:sp∈(E0,l)::l.flatMap YT){c:Za}(hc:c∈sp.2){m:Yk}(hm:m∈c.joins):m.text∈(QN l).1:=by
 unfold QN;rw[ZtC _ ([],[]) (fun x=>rfl)];exact .inr (Q2.2 ⟨sp,h,Jn.2 ⟨m,Q2.2 ⟨c,hc,hm⟩,rfl⟩⟩)
def Zu1{l:U Za}{sp:Spt}(h:sp∈l.flatMap YT):sp.1∈(QN l).2:=Gj (f:=(·.1)) h
def ext(env:NM)(l to:U Y):NM:=((l.zip to).map fun p=>(p.1,nam p.2)).reverse++env
def tx1(env:NM)(x:Y):Y:=match ZR env x with
 | some e=>e.text
 | none=>x
def tx0(env:NM)(x:Y):Y:=if x=E0 then E0 else tx1 env x
mutual
def exW (env:NM):Zi->Zi
 | .mk op n tx ks=>bif op==2 then(ZR env tx).getD (.mk op n tx ks) else .mk op n tx (ZDx env ks)
def ZDx (env:NM):U Zi->U Zi
 | []=>[]
 | k::l=>exW env k::ZDx env l
end
def ZzV(env:NM)(l:U Zi):ZDx env l=l.map (exW env):=by
 induction l with
 | nil=>rfl
 | cons k l ih=>rw[ZDx,ih];rfl
def ZzW(env:NM)(e:Zi):exW env e=bif e.op==2 then(ZR env e.text).getD e else .mk e.op e.n e.text (e.kids.map (exW env)):=by
 cases e;rw[exW,ZzV]
abbrev BF(σ:Type):=σ->NM->U Y->Part->σ×U Y
def Wv(l:U Za):U Y:=(QN l).1++(QN l).2
def ZoS(env en:NM)(m:Yk):Yk:=⟨tx1 env m.text,m.names.map (tx1 en)⟩
section
variable{σ:Type}
mutual
def Wt (bd:BF σ) (s:σ) (env:NM):Term->σ×Term
 | .mk op tx ar ds ks=>bif op==4 then
     ((Wts bd (Wcs bd (bd s env (Wv ds) (.pr (.mk op tx ar ds ks))).1 (ext env (Wv ds) (bd s env (Wv ds) (.pr (.mk op tx ar ds ks))).2) ds).1 (ext env (Wv ds) (bd s env (Wv ds) (.pr (.mk op tx ar ds ks))).2) ks).1,
      .mk op (tx0 env tx) (ar.map (exW env)) (Wcs bd (bd s env (Wv ds) (.pr (.mk op tx ar ds ks))).1 (ext env (Wv ds) (bd s env (Wv ds) (.pr (.mk op tx ar ds ks))).2) ds).2
       (Wts bd (Wcs bd (bd s env (Wv ds) (.pr (.mk op tx ar ds ks))).1 (ext env (Wv ds) (bd s env (Wv ds) (.pr (.mk op tx ar ds ks))).2) ds).1 (ext env (Wv ds) (bd s env (Wv ds) (.pr (.mk op tx ar ds ks))).2) ks).2)
   else((Wts bd s env ks).1,.mk op (tx0 env tx) (ar.map (exW env)) [] (Wts bd s env ks).2)
def Wts (bd:BF σ) (s:σ) (env:NM):U Term->σ×U Term
 | []=>(s,[])
 | t::l=>((Wts bd (Wt bd s env t).1 env l).1,(Wt bd s env t).2::(Wts bd (Wt bd s env t).1 env l).2)
def Wc (bd:BF σ) (s:σ) (env:NM):Za->σ×Za
 | .mk f tx js ds ks=>bif f==2 then
     ((Wts bd (Wcs bd s env ds).1 env ks).1,.mk f (tx1 env tx) [] (Wcs bd s env ds).2 (Wts bd (Wcs bd s env ds).1 env ks).2)
   else
    ((Wts bd (bd s env (ZJ js) (.cl (.mk f tx js ds ks))).1 (ext env (ZJ js) (bd s env (ZJ js) (.cl (.mk f tx js ds ks))).2) ks).1,
     .mk f E0 (js.map (ZoS env (ext env (ZJ js) (bd s env (ZJ js) (.cl (.mk f tx js ds ks))).2))) []
      (Wts bd (bd s env (ZJ js) (.cl (.mk f tx js ds ks))).1 (ext env (ZJ js) (bd s env (ZJ js) (.cl (.mk f tx js ds ks))).2) ks).2)
def Wcs (bd:BF σ) (s:σ) (env:NM):U Za->σ×U Za
 | []=>(s,[])
 | c::l=>((Wcs bd (Wc bd s env c).1 env l).1,(Wc bd s env c).2::(Wcs bd (Wc bd s env c).1 env l).2)
end
def inT(bd:BF σ)(s:σ)(env:NM)(t:Term):σ×NM:=bif t.op==4 then((bd s env (Wv t.defs) (.pr t)).1,ext env (Wv t.defs) (bd s env (Wv t.defs) (.pr t)).2) else(s,env)
def inC(bd:BF σ)(s:σ)(env:NM)(c:Za):σ×NM:=bif c.form==2 then(s,env) else((bd s env (ZJ c.joins) (.cl c)).1,ext env (ZJ c.joins) (bd s env (ZJ c.joins) (.cl c)).2)
theorem ZAZ{bd:BF σ}{s:σ}{env:NM}{t:Term}(h:t.op=4):Wt bd s env t=((Wts bd (Wcs bd (inT bd s env t).1 (inT bd s env t).2 t.defs).1 (inT bd s env t).2 t.kids).1,.mk t.op (tx0 env t.text) (t.args.map (exW env)) (Wcs bd (inT bd s env t).1 (inT bd s env t).2 t.defs).2 (Wts bd (Wcs bd (inT bd s env t).1 (inT bd s env t).2 t.defs).1 (inT bd s env t).2 t.kids).2):=by
 cases t;simp only at h;subst h;rw[Wt];rfl
theorem Zur{bd:BF σ}{s:σ}{env:NM}{t:Term}(h:t.op≠4):Wt bd s env t=((Wts bd s env t.kids).1,.mk t.op (tx0 env t.text) (t.args.map (exW env)) [] (Wts bd s env t.kids).2):=by
 cases t with|mk op tx ar ds ks=>
 simp only at h;have:(op==4)=false:=by simpa using h
 rw[Wt,this];rfl
theorem ZqS{bd:BF σ}{s:σ}{env:NM}{c:Za}(h:c.form=2):Wc bd s env c=((Wts bd (Wcs bd s env c.defs).1 env c.kids).1,.mk c.form (tx1 env c.text) [] (Wcs bd s env c.defs).2 (Wts bd (Wcs bd s env c.defs).1 env c.kids).2):=by
 cases c;simp only at h;subst h;rw[Wc];rfl
theorem Zus{bd:BF σ}{s:σ}{env:NM}{c:Za}(h:c.form≠2):Wc bd s env c=((Wts bd (inC bd s env c).1 (inC bd s env c).2 c.kids).1,.mk c.form E0 (c.joins.map (ZoS env (inC bd s env c).2)) [] (Wts bd (inC bd s env c).1 (inC bd s env c).2 c.kids).2):=by
 cases c with|mk f tx js ds ks=>
 simp only at h;have:(f==2)=false:=by simpa using h
 unfold inC;rw[Wc,this];simp only[this,Cq0]
theorem ZhW(bd:BF σ)(s:σ)(env:NM):Wts bd s env []=(s,[]):=by rw[Wts]
theorem ZfG(bd:BF σ)(s:σ)(env:NM)(t:Term)(l:U Term):Wts bd s env (t::l)=((Wts bd (Wt bd s env t).1 env l).1,(Wt bd s env t).2::(Wts bd (Wt bd s env t).1 env l).2):=by rw[Wts]
theorem Zn6(bd:BF σ)(s:σ)(env:NM):Wcs bd s env []=(s,[]):=by rw[Wcs]
theorem ZqR(bd:BF σ)(s:σ)(env:NM)(c:Za)(l:U Za):Wcs bd s env (c::l)=((Wcs bd (Wc bd s env c).1 env l).1,(Wc bd s env c).2::(Wcs bd (Wc bd s env c).1 env l).2):=by rw[Wcs]
end
def ZvT:U NM->Y->O Zi
 | [],_=>none
 | m::c,x=>match ZR m x with
   | some v=>some v
   | none=>ZvT c x
def find_eq(x:Y):∀(c:U NM)(F:Nat),c.length<F->Zg2 F c x=some (match ZvT c x with|some v=>(v,true) | none=>(⟨0,0,E0,[]⟩,false)):=by
 intro c
 induction c with
 | nil=>
   intro F hF;obtain⟨G,rfl⟩:∃G,F=G+1:=⟨F-1,by omega⟩
   unfold Zg2;rw[ZH];simp[ZjT,ZvT]
 | cons m c ih=>
   intro F hF;obtain⟨G,rfl⟩:∃G,F=G+1:=⟨F-1,by omega⟩
   unfold Zg2;rw[ZH];show(bif(ZR m x).isSome then some ((ZR m x).getD ⟨0,0,⟨#[]⟩,[]⟩,true) else loop G (ZjT x) c)=_;unfold ZvT;cases hg:ZR m x with
   | some v=>rfl
   | none=>
     have:=ih G (by simp only[Kf]at hF;omega);unfold Zg2 at this;simp only[Option.isSome_none,Cq0];rw[this]
def Jk(bad:Y->Z)(l:U Y):Y->Z:=fun x=>bad x && !decide (x∈l)
mutual
def bT (bad:Y->Z):Term->Z
 | .mk op tx ar ds ks=>(!decide (tx=E0)&&bad tx)||bif op==4 then bCs (Jk bad (Wv ds)) ds||bTs (Jk bad (Wv ds)) ks else bTs bad ks
def bTs (bad:Y->Z):U Term->Z
 | []=>false
 | t::l=>bT bad t||bTs bad l
def bC (bad:Y->Z):Za->Z
 | .mk f tx js ds ks=>bif f==2 then bCs bad ds||bTs bad ks else bTs (Jk bad (ZJ js)) ks
def bCs (bad:Y->Z):U Za->Z
 | []=>false
 | c::l=>bC bad c||bCs bad l
end
def ZFK(bad:Y->Z)(t:Term):bT bad t=((!decide (t.text=E0)&&bad t.text)||bif t.op==4 then bCs (Jk bad (Wv t.defs)) t.defs||bTs (Jk bad (Wv t.defs)) t.kids else bTs bad t.kids):=by cases t;rw[bT]
def ZAt(bad:Y->Z)(c:Za):bC bad c=bif c.form==2 then bCs bad c.defs||bTs bad c.kids else bTs (Jk bad (ZJ c.joins)) c.kids:=by cases c;rw[bC]
def Zfz(bad:Y->Z)(t:Term)(l:U Term):bTs bad (t::l)=(bT bad t||bTs bad l):=by rw[bTs]
def ZhS(bad:Y->Z):bTs bad []=false:=by rw[bTs]
def ZqA(bad:Y->Z)(t:Za)(l:U Za):bCs bad (t::l)=(bC bad t||bCs bad l):=by rw[bCs]
def ZnR(bad:Y->Z):bCs bad []=false:=by rw[bCs]
structure CE(c:List NM)(env:NM)(B Bn:List ByteArray)(bad:ByteArray->Bool):Prop where
 get:∀x,ZvT c x=ZR env x
 sz:∀x e,ZR env x=some e->(pre (.ex e)).length<=60
 b:∀x,x∈B↔(ZR env x).isSome=true
 bd:∀x,bad x=true↔∃e,ZR env x=some e/\e.op≠2
 nb:∀x,x∈Bn->x∈B/\bad x=false
def Zom{F:Nat}{B Bn:U Y}{bad:Y->Z}{env:NM}(x:Y)(fr:MB)(c:U NM)(hF:c.length<F)(h:CE c env B Bn bad):ZlV F fr c x=some (bif bad x then .Z9 7 else .ok (note fr B x,tx1 env x)):=by
 unfold ZlV note tx1;rw[find_eq x c F hF,Bq0,h.get x];have hb:=h.b x;have hd:=h.bd x;cases hg:ZR env x with
 | none=>
   rw[hg]at hb hd
   have hbad:bad x=false:=by
    cases e:bad x
    ·rfl
    ·obtain⟨_,z,_⟩:=hd.1 e;cases z
   rw[if_neg (by simpa using hb),hbad];rfl
 | some e=>
   rw[hg]at hb hd;rw[if_pos (hb.2 rfl)];by_cases h2:e.op=2
   ·have hbad:bad x=false:=by
     cases e':bad x
     ·rfl
     ·obtain⟨_,z,z2⟩:=hd.1 e';cases z;exact absurd h2 z2
    rw[hbad];simp[h2]
   ·have hbad:bad x=true:=hd.2 ⟨e,rfl,h2⟩;have:(e.op !=2)=true:=by simpa using h2
    rw[hbad];show(bif(e.op !=2) then some (PR.Z9 7) else some (PR.ok (fr,e.text)))=_;rw[this];rfl
def Zh6{F:Nat}{B Bn:U Y}{bad:Y->Z}{env:NM}(x:Y)(fr:MB)(c:U NM)(hF:c.length<F)(h:CE c env B Bn bad)(hx:x∈Bn):ZjS F fr c x=some (fr,tx1 env x):=by
 obtain⟨h1,h2⟩:=h.nb x hx;unfold ZjS;rw[Zom x fr c hF h,h2];show some (id (note fr B x,tx1 env x))=_;unfold note;rw[if_pos h1];rfl
def ZnJ{F:Nat}(hF:10000000000000000000<=F):∀n e,(pre (.ex e)).length<=n->n<=60->∀Fr,n<=Fr->loop Fr (Zec F) e=some e:=by
 intro n
 induction n with
 | zero=>intro e hn;have:=YQ (.ex e);omega
 | succ n ih=>
   intro e hn h60 Fr hFr;obtain⟨G,rfl⟩:∃G,Fr=G+1:=⟨Fr-1,by omega⟩
   rw[ZH];have hih:∀x∈e.kids,loop G (Zec F) x=some x:=fun x hx=>ih x (by have:=ZX (XY hx);omega) Va G Va
   have hkl:e.kids.length<(pre (.ex e)).length:=by have:=ZaJ (.ex e);simpa[ZE]using this
   generalize loop G (Zec F)=n1 at hih;unfold Zec;have:=ZM (body:=Ze9 e n1) (fun(k:Nat)(acc:U Zi)=>((k:Int),acc)) e.kids (fun rest acc=>acc.length+rest.length<=1000) (fun rest acc=>some (Zi.mk e.op e.n e.text (acc++rest))) (F:=F) ?_ ?_ Va [] (by simp;omega)
   ·refine this.trans ?_;rw[G5];cases e;rfl
   ·intro acc nx _;simp only[Ze9,Zp,Cq0,Gk]
   ·intro k x rest acc nx hx hk hg hp ihl;simp only[Kf]at hp;have a1:app 56 acc [x]=some (acc++[x]):=QL (by simp;omega) Va;simp only[Ze9,ZC hk,Cq1,hg,Bq0,hih x hx,a1];rw[XQ Va,ihl _ (by simp;omega),Gf];rfl
def ZM4{F:Nat}(hF:10000000000000000000<=F){B Bn:U Y}{bad:Y->Z}{env:NM}{c:U NM}(hc:CE c env B Bn bad)(hcl:c.length<F):∀n e (fr:MB),(pre (.ex e)).all U2=true->(pre (.ex e)).length<=n->n<=60->∀Fr,n<=Fr->loop Fr (Zed F c) (fr,e)=some (notes B (nmE e) fr,exW env e):=by
 intro n
 induction n with
 | zero=>intro e fr _ hn;have:=YQ (.ex e);omega
 | succ n ih=>
   intro e fr hs hn h60 Fr hFr;obtain⟨G,rfl⟩:∃G,Fr=G+1:=⟨Fr-1,by omega⟩
   rw[ZH];have hih:∀x∈e.kids,∀fr:MB,loop G (Zed F c) (fr,x)=some (notes B (nmE x) fr,exW env x):=fun x hx fr=>ih x fr (by rw[Kd]at hs ⊢;exact fun y hy=>hs y (ZQ (XY hx) hy)) (by have:=ZX (XY hx);omega) Va G Va
   have hkl:e.kids.length<(pre (.ex e)).length:=by have:=ZaJ (.ex e);simpa[ZE]using this
   have hsh:Zaj e=true:=Kd.1 hs _ (Yh _);generalize loop G (Zed F c)=n1 at hih;rw[Zrw,ZzW];unfold Zed;dsimp only;cases h2:e.op==2
   ·simp only[Cq0,G5]
    have ht:e.text=E0:=by
     unfold Zaj at hsh;rw[h2]at hsh;cases h1:e.op==1<;>rw[h1]at hsh<;>simp only[Cq1,Cq0,Ba0,decide_eq_true_eq]at hsh
     ·exact hsh.1.1.2
     ·exact hsh.1.2
    have:=ZM (body:=ZjW e n1) (fun(k:Nat)(s:MB×U Zi)=>((k:Int),s.1,s.2)) e.kids (fun rest s=>s.2.length+rest.length<=1000) (fun rest s=>some (notes B (rest.flatMap nmE) s.1,Zi.mk e.op e.n E0 (s.2++rest.map (exW env)))) (F:=F) ?_ ?_ Va (fr,[]) (by simp;omega)
    ·refine this.trans ?_;rw[ht];rfl
    ·intro s nx _;simp only[ZjW,Zp,Cq0,List.map_nil,Gk];rfl
    ·intro k x rest s nx hx hk hg hp ihl;simp only[Kf]at hp;simp only[ZjW,ZC hk,Cq1,hg,Bq0,hih x hx];have a1:app 56 s.2 [exW env x]=some (s.2++[exW env x]):=QL (by simp;omega) Va;rw[a1,Bq0,XQ Va];refine(ihl (notes B (nmE x) s.1,s.2++[exW env x]) (by simp;omega)).trans ?_;rw[K2,ZeL,Gf];rfl
   ·have hk:e.kids=[]:=by
     have h2':e.op=2:=by simpa using h2
     unfold Zaj at hsh;rw[h2']at hsh;simp only[Int.reduceBEq,Cq1,Cq0,Ba0,beq_iff_eq]at hsh;exact Q4 hsh.2
    rw[hk];simp only[Cq1,GH,Gk];rw[find_eq e.text c F hcl,Bq0,hc.get];have hb:=hc.b e.text;cases hg:ZR env e.text with
    | none=>
      rw[hg]at hb;show some (Xw fr e.text true,e)=some (note fr B e.text,e);unfold note;rw[if_neg (by simpa using hb)]
    | some y=>
      rw[hg]at hb;have hy:=ZnJ hF 60 y (hc.sz _ _ hg) Vb F Va;show((Zt1 F y).bind fun z=>some (fr,z))=some (note fr B e.text,y);unfold note Zt1;rw[if_pos (hb.2 rfl),hy];rfl
end
section
structure BE(F:Nat)(I:Nat->MB->Prop)(Ye:U6)(Ka:Za->List ByteArray->Option MB)(frL:Term->Option MB)(bd:BF MB):Prop where
 mono:∀k j tk,I (k+j) tk->I k tk
 t:∀tk c env B Bn bad t k,CE c env B Bn bad->c.length+2*(pre (.pr t)).length<F->B.length+12000*(pre (.pr t)).length<=750000->(pre (.pr t)).all U2=true->(pre (.pr t)).length<=60->t.op=4->(Wv t.defs).length<=11040->I (k+(Wv t.defs).length) tk ->
  ∃m,Ye tk c (Wv t.defs) (frL t)=some ((bd tk env (Wv t.defs) (.pr t)).1,m)/\CE (m::c) (ext env (Wv t.defs) (bd tk env (Wv t.defs) (.pr t)).2) (B++Wv t.defs) (Bn++Wv t.defs) (Jk bad (Wv t.defs))/\I k (bd tk env (Wv t.defs) (.pr t)).1
 r:∀tk c env B Bn bad p k,CE c env B Bn bad->c.length+2*(pre (.cl p)).length<F->B.length+12000*(pre (.cl p)).length<=750000->(pre (.cl p)).all U2=true->(pre (.cl p)).length<=60->p.form=1->(ZJ p.joins).length<=9->I (k+(ZJ p.joins).length) tk ->
  ∃m,Ye tk c (ZJ p.joins) (Ka p (ZJ p.joins))=some ((bd tk env (ZJ p.joins) (.cl p)).1,m)/\CE (m::c) (ext env (ZJ p.joins) (bd tk env (ZJ p.joins) (.cl p)).2) (B++ZJ p.joins) (Bn++ZJ p.joins) (Jk bad (ZJ p.joins))/\I k (bd tk env (ZJ p.joins) (.cl p)).1
def Xl(l:U Evt)(fr:MB):MB:=l.foldl (fun fr e=>note fr e.2 e.1) fr
def J5(a b:U Evt)(fr:MB):Xl (a++b) fr=Xl b (Xl a fr):=GJ
def Zrs(B:U Y)(l:U Y)(fr:MB):Xl (l.map fun s=>(s,B)) fr=notes B l fr:=by
 unfold Xl notes;rw[List.foldl_map]
def TXg(F:Nat)(I:Nat->MB->Prop)(bd:BF MB)(nx:WS×U NM×Term->O (PR (WS×Term)))(t:Term):Prop:=∀fr tk c env B Bn bad k,CE c env B Bn bad->c.length+2*(pre (.pr t)).length<F->B.length+12000*(pre (.pr t)).length<=750000->I (k+12000*(pre (.pr t)).length) tk ->
 nx ((fr,tk),c,t)=some (bif bT bad t then .Z9 7 else .ok ((Xl (Qd (.pr t) B) fr,(Wt bd tk env t).1),(Wt bd tk env t).2))/\(bT bad t=false->I k (Wt bd tk env t).1)
def ZrR{c:Za}(hs:Wp c=true):(ZJ c.joins).length<=9:=by
 obtain⟨h3,hn3,k,hk⟩:=KG hs
 have:∀js:U Yk,(∀m∈js,m.names.length<=3)->(ZJ js).length<=3*js.length:=by
  intro js
  induction js with
  | nil=>intro _;simp[ZJ]
  | cons m js ihj=>
    intro h;have a:=h m (by simp);have b:=ihj fun x hx=>h x (Ks _ hx)
    unfold ZJ at b ⊢;rw[K2,K0,Kf];omega
 have:=this c.joins hn3;omega
def Zln{c:Za}(hs:Wp c=true)(hf:c.form=1):c.text=E0/\c.defs=[]:=by
 unfold Wp at hs;rw[hf]at hs;simp only[Int.reduceBEq,Cq0,Ba0,decide_eq_true_eq,beq_iff_eq]at hs;exact⟨hs.2.1.1.1.1.2,Q4 hs.2.1.1.1.2⟩
def ZGw{F:Nat}(hF:10000000000000000000<=F){I:Nat->MB->Prop}{Ye:U6}{rl:Za->U Y->O MB}{fl:Term->O MB}{bd:BF MB}(hE:BE F I Ye rl fl bd){B Bn:U Y}{bad:Y->Z}{c:U NM}{env:NM}(hc:CE c env B Bn bad)(nx:WS×U NM×Term->O (PR (WS×Term)))(p0:Za)(hs:(pre (.cl p0)).all U2=true)(h60:(pre (.cl p0)).length<=60)(hf:p0.form=1)(hcl:c.length+2*(pre (.cl p0)).length<F)(hB:B.length+12000*(pre (.cl p0)).length<=750000)(hj:∀m∈p0.joins,m.text∈Bn)(hnx:∀k∈p0.kids,TXg F I bd nx k)(fr tk:MB)(kk:Nat)(hI:I (kk+12000*(pre (.cl p0)).length) tk):
 ZlU F Ye rl nx (fr,tk) c p0=some (bif bC bad p0 then .Z9 7 else .ok ((Xl (Qd (.cl p0) B) fr,(Wc bd tk env p0).1),(Wc bd tk env p0).2))/\(bC bad p0=false->I kk (Wc bd tk env p0).1):=by
 have hsC:Wp p0=true:=Kd.1 hs _ (Yh _);obtain⟨h3,hn3,k,hk⟩:=KG hsC;have hd:=Zln hsC hf;have hkl:=ZX (X5 (c:=p0) (x:=k) (by rw[hk];simp));have hjl:=ZrR hsC;obtain⟨mb,hb,hci,hIb⟩:=hE.r tk c env B Bn bad p0 (kk+12000*(pre (.pr k)).length) hc hcl hB hs h60 hf hjl (hE.mono _ (12000*(pre (.cl p0)).length-12000*(pre (.pr k)).length-(ZJ p0.joins).length) _ (by refine(congrArg (fun z=>I z tk) ?_).mp hI;omega));have he:Qd (.cl p0) B=Qd (.pr k) (B++ZJ p0.joins):=by rw[Zee,hd.2,hk];simp
 have hne:p0.form≠2:=Va
 have hbc:bC bad p0=bT (Jk bad (ZJ p0.joins)) k:=by
  rw[ZAt,hf,hk];show bTs _ [k]=_;rw[Zfz,ZhS,Bool.or_false]
 have hin:inC bd tk env p0=((bd tk env (ZJ p0.joins) (.cl p0)).1,ext env (ZJ p0.joins) (bd tk env (ZJ p0.joins) (.cl p0)).2):=by
  unfold inC;rw[hf];rfl
 rw[Zus hne,hin,hk,ZfG,ZhW,he,hbc];dsimp only;generalize bd tk env (ZJ p0.joins) (.cl p0)=bv at hb hci hIb;obtain⟨tk1,to⟩:=bv;dsimp only at hb hci hIb ⊢;generalize hen:ext env (ZJ p0.joins) to=en at hci ⊢;have hkx:=fun fr=>hnx k (by rw[hk];simp) fr tk1 _ _ _ _ _ kk hci (by simp only[Kf];omega) (by rw[K0];omega) hIb
 refine⟨?_,(hkx fr).2⟩
 have hb2:∀(i:Int) next js (m:Yk) fr,m∈p0.joins->js.length<=10->loop F (Zc7 F (mb::c) i next js m (tx1 env m.text)) (0,fr,[])=next (YX (i+1),fr,js++[ZoS env en m]):=fun i next js m fr hm hjs=>by
  have hmn:=hn3 m hm;have:=ZM (body:=Zc7 F (mb::c) i next js m (tx1 env m.text)) (fun(q:Nat)(ns:U Y)=>((q:Int),fr,ns)) m.names (fun rest ns=>ns.length+rest.length<=10) (fun rest ns=>next (YX (i+1),fr,js++[Yk.mk (tx1 env m.text) (ns++rest.map (tx1 en))])) (F:=F) ?_ ?_ Va [] (by simp;omega)
  ·refine this.trans ?_;rw[G5];rfl
  ·intro ns nx' hp;have a1:app 40 js [Yk.mk (tx1 env m.text) ns]=some (js++[Yk.mk (tx1 env m.text) ns]):=QL (by simp;omega) Va;simp only[Zc7,Zp,Cq0,a1,Bq0,List.map_nil,Gk]
  ·intro q x rest ns nx' hx hq hg hp ih;simp only[Kf]at hp;have hxb:x∈Bn++ZJ p0.joins:=GM _ (Q2.2 ⟨m,hm,hx⟩);have ht:=Zh6 (F:=F) x fr (mb::c) (by simp only[Kf];omega) hci hxb;have a1:app 16 ns [tx1 en x]=some (ns++[tx1 en x]):=QL (by simp;omega) Va;simp only[Zc7,ZC hq,Cq1,hg,Bq0,ht,a1];rw[XQ Va,ih _ (by simp;omega),Gf];rfl
 have hb1:∀fr:MB,loop F (Zc8 F nx c (mb::c) tk1 p0) (0,fr,[])=some (bif bT (Jk bad (ZJ p0.joins)) k then .Z9 7 else .ok ((Xl (Qd (.pr k) (B++ZJ p0.joins)) fr,(Wt bd tk1 en k).1),Za.mk p0.form E0 (p0.joins.map (ZoS env en)) [] [(Wt bd tk1 en k).2])):=fun fr=>by
  refine ZM (body:=Zc8 F nx c (mb::c) tk1 p0) (fun(q:Nat)(js:U Yk)=>((q:Int),fr,js)) p0.joins (fun rest js=>js.length+rest.length<=10) (fun rest js=>some (bif bT (Jk bad (ZJ p0.joins)) k then .Z9 7 else .ok ((Xl (Qd (.pr k) (B++ZJ p0.joins)) fr,(Wt bd tk1 en k).1),Za.mk p0.form E0 (js++rest.map (ZoS env en)) [] [(Wt bd tk1 en k).2]))) (F:=F) ?_ ?_ Va [] (by simp;omega)
  ·intro js nx' hp;have g0:ZN p0.kids 0=some k:=by rw[hk];rfl
   simp only[Zc8,Zp,Cq0,g0,Bq0];rw[(hkx fr).1,Bq0,List.map_nil,Gk];cases bT (Jk bad (ZJ p0.joins)) k<;>rfl
  ·intro q m rest js nx' hm hq hg hp ih;have ht:=Zh6 (F:=F) m.text fr c Va hc (hj m hm);simp only[Kf]at hp;simp only[Zc8,ZC hq,Cq1,hg,Bq0,ht];rw[hb2 _ _ js m fr hm Va,XQ Va,ih _ (by simp;omega),Gf];rfl
 unfold ZlU;have:=ZM (body:=Ze7 F Ye rl nx (fr,tk) c p0) (fun(q:Nat)(ns:U Y)=>((q:Int),ns)) p0.joins (fun rest ns=>ns++ZJ rest=ZJ p0.joins/\ns.length<=9) (fun _ _=>some (bif bT (Jk bad (ZJ p0.joins)) k then .Z9 7 else .ok ((Xl (Qd (.pr k) (B++ZJ p0.joins)) fr,(Wt bd tk1 en k).1),Za.mk p0.form E0 (p0.joins.map (ZoS env en)) [] [(Wt bd tk1 en k).2]))) (F:=F) ?_ ?_ Va [] ⟨rfl,Gi _⟩
 ·exact this
 ·intro ns nx' hp;have hns:ns=ZJ p0.joins:=by have:=hp.1;simpa[ZJ]using this
  subst hns;simp only[Ze7,Zp,Cq0];rw[hb,Bq0];exact hb1 fr
 ·intro q m rest ns nx' hm hq hg hp ih;have hmn:=hn3 m hm;have a1:app 16 ns m.names=some (ns++m.names):=QL Va Va;simp only[Ze7,ZC hq,Cq1,hg,Bq0,a1];rw[XQ Va];refine ih _ ⟨?_,?_⟩
  ·have:=hp.1;unfold ZJ at this ⊢;rw[K2]at this;rw[Gf];exact this
  ·have:=congrArg List.length hp.1;unfold ZJ at this;rw[K2,K0,K0]at this;unfold ZJ at hjl;rw[K0];omega
def ZeG{α β:Type}(y:α)(p:Int->O β)(k:α->O β):JS (.ok y) p k=k y:=rfl
def ZiR{α σ β γ:Type}{body:γ->(γ->O β)->O β}(st:Nat->σ->γ)(l:U α)(Pre:U α->σ->Prop)(Q:U α->σ->O β->Prop)
 (h0:∀s nx,Pre [] s->Q [] s (body (st l.length s) nx))
 (h1:∀(k:Nat) x rest s nx,x∈l->k<l.length->ZN l (k:Int)=some x->Pre (x::rest) s->(∀s',Pre rest s'->Q rest s' (nx (st (k+1) s')))->Q (x::rest) s (body (st k s) nx)) {F:Nat} (hF:l.length<F) (s:σ) (hp:Pre l s):Q l s (loop F body (st 0 s)):=by
 have key:∀(d j F:Nat)(s:σ),j+d=l.length->d<F->Pre (l.drop j) s->Q (l.drop j) s (loop F body (st j s)):=by
  intro d
  induction d with
  | zero=>
    intro j F s hj hF hp;obtain⟨F,rfl⟩:∃G,F=G+1:=⟨F-1,by omega⟩
    obtain rfl:j=l.length:=Va
    rw[List.drop_length]at hp ⊢;rw[ZH];exact h0 _ _ hp
  | succ d ih=>
    intro j F s hj hF hp;obtain⟨F,rfl⟩:∃G,F=G+1:=⟨F-1,by omega⟩
    have hjl:j<l.length:=Va
    rw[List.drop_eq_getElem_cons hjl]at hp ⊢;rw[ZH];exact h1 j _ _ s _ (GN hjl) hjl (Qq hjl) hp fun s' hp'=>ih (j+1) F s' Va Va hp'
 have:=key l.length 0 F s Va hF (by simpa using hp)
 simpa using this
def Zll{t:Term}(h:Zai t=true)(h4:t.op≠4):t.defs=[]:=by
 have e4:(t.op==4)=false:=by simpa using h4
 unfold Zai szs at h;rw[e4,Ba0]at h;obtain⟨h,_⟩:=h
 have z:t.defs.length=0:=by
  cases a:(t.op==1)||(t.op==7)<;>rw[a]at h
  ·cases b:t.op==2<;>rw[b]at h
   ·cases c:t.op==3<;>rw[c]at h
    ·cases d:t.op==5<;>rw[d]at h<;>simp only[Cq1,Cq0,Ba0,beq_iff_eq]at h
     ·exact h.2.1.2
     ·exact h.1.2
    ·simp only[Cq1,Cq0,Ba0,beq_iff_eq]at h;exact h.1.2
   ·simp only[Cq1,Cq0,Ba0,beq_iff_eq]at h;exact h.2.1.2
  ·simp only[Cq1,Cq0,Ba0,beq_iff_eq]at h;exact h.1.2
 exact Q4 z
structure TB(B:List ByteArray)(l:List Za):Prop where
 j:∀sp∈(E0,l)::l.flatMap YT,∀c∈sp.2,∀m∈c.joins,m.text∈B
 p:∀sp∈l.flatMap YT,sp.1∈B
def TB.sub{B:U Y}{l:U Za}(h:TB B l){c:Za}(hc:c∈l)(h2:c.form=2):TB B c.defs:=by
 have e:YT c=(c.text,c.defs)::c.defs.flatMap YT:=by rw[JB,h2];rfl
 have hin:∀sp,sp∈(c.text,c.defs)::c.defs.flatMap YT->sp∈l.flatMap YT:=fun sp hsp=>Q2.2 ⟨c,hc,by rw[e];exact hsp⟩
 constructor
 ·intro sp hsp d hd m hm;rcases Kx.1 hsp with rfl|hsp
  ·exact h.j (c.text,c.defs) (Ks _ (hin _ Gy)) d hd m hm
  ·exact h.j sp (Ks _ (hin _ (Ks _ hsp))) d hd m hm
 ·exact fun sp hsp=>h.p sp (hin _ (Ks _ hsp))
def TB.text{B:U Y}{l:U Za}(h:TB B l){c:Za}(hc:c∈l)(h2:c.form=2):c.text∈B:=h.p (c.text,c.defs) (Q2.2 ⟨c,hc,by rw[JB,h2];exact Gy⟩)
def ZJf{l:U Za}(B:U Y):TB (B++Wv l) l:=
 ⟨fun sp hsp c hc m hm=>GM _ (List.mem_append_left _ (ZwM hsp hc hm)),fun sp hsp=>GM _ (GM _ (Zu1 hsp))⟩
section
variable{F:Nat}{I:Nat->MB->Prop}{Ye:U6}{rl:Za->U Y->O MB}{fl:Term->O MB}{bd:BF MB}
def ZqV(hE:BE F I Ye rl fl bd){a b:Nat}{tk:MB}(h:b<=a)(hI:I a tk):I b tk:=hE.mono b (a-b) tk (by rw[show b+(a-b)=a by omega];exact hI)
def ZvQ(hF:10000000000000000000<=F)(hE:BE F I Ye rl fl bd){B Bn:U Y}{bad:Y->Z}{c:U NM}{env:NM}(hc:CE c env B Bn bad)(nx:WS×U NM×Term->O (PR (WS×Term))):∀n (l:U Za),((l.map Part.cl).flatMap pre).length<=n->n<=60->(∀x∈(l.map Part.cl).flatMap pre,U2 x=true)->(∀t,Part.pr t∈(l.map Part.cl).flatMap pre->TXg F I bd nx t)->TB Bn l ->
 ∀Fr,n<Fr->∀(fr tk:MB)(kk:Nat),c.length+2*((l.map Part.cl).flatMap pre).length<F->B.length+12000*((l.map Part.cl).flatMap pre).length<=750000->I (kk+12000*((l.map Part.cl).flatMap pre).length) tk ->
 loop Fr (Zcm F Ye rl nx c) ((fr,tk),l)=some (bif bCs bad l then .Z9 7 else .ok ((Xl (l.flatMap fun d=>Qd (.cl d) B) fr,(Wcs bd tk env l).1),(Wcs bd tk env l).2))/\(bCs bad l=false->I kk (Wcs bd tk env l).1):=by
 intro n
 induction n with
 | zero=>
   intro l hl _ _ _ _ Fr hFr fr tk kk _ _ hI
   have:l=[]:=by
    cases l with
    | nil=>rfl
    | cons x l=>simp only[G3,K2,K0]at hl;have:=YQ (.cl x);omega
   subst this;obtain⟨G,rfl⟩:∃G,Fr=G+1:=⟨Fr-1,by omega⟩
   rw[ZH];rw[Zn6,ZnR];refine⟨?_,fun _=>ZqV hE Va hI⟩;unfold Zcm;dsimp only;cases F with
   | zero=>omega
   | succ F=>rw[ZH];rfl
 | succ n ih=>
   intro l hl h60 hs hnx htb Fr hFr fr tk kk hcl hB hI;obtain⟨G,rfl⟩:∃G,Fr=G+1:=⟨Fr-1,by omega⟩
   rw[ZH];have hlen:=Zae l
   have hih:∀x∈l,x.form=2->∀(fr tk:MB)(kk:Nat),I (kk+12000*((x.defs.map Part.cl).flatMap pre).length) tk->loop G (Zcm F Ye rl nx c) ((fr,tk),x.defs)=some (bif bCs bad x.defs then .Z9 7 else .ok ((Xl (x.defs.flatMap fun d=>Qd (.cl d) B) fr,(Wcs bd tk env x.defs).1),(Wcs bd tk env x.defs).2))/\(bCs bad x.defs=false->I kk (Wcs bd tk env x.defs).1):=fun x hx h2 fr tk kk hI=>by
    have hsub:∀y∈(x.defs.map Part.cl).flatMap pre,y∈(l.map Part.cl).flatMap pre:=fun y hy=>by
     obtain⟨z,hz,hy⟩:=Q2.1 hy;obtain⟨d,hd,rfl⟩:=Jn.1 hz;exact Q2.2 ⟨_,Gj hx,ZQ (YK hd) hy⟩
    have h1:((x.defs.map Part.cl).flatMap pre).length<(pre (.cl x)).length:=by
     rw[Xe (.cl x)];show _<((x.defs.map Part.cl++x.kids.map Part.pr).flatMap pre).length+1;rw[J1,K0];omega
    have h2':=Ux (Gj (f:=Part.cl) hx);exact ih x.defs Va Va (fun y hy=>hs y (hsub y hy)) (fun t ht=>hnx t (hsub _ ht)) (htb.sub hx h2) G Va fr tk kk Va Va hI
   generalize loop G (Zcm F Ye rl nx c)=n1 at hih;unfold Zcm;dsimp only
   have:=ZiR (body:=ZjO F Ye rl nx c l n1) (fun(q:Nat)(s:MB×MB×U Za)=>((q:Int),(s.1,s.2.1),s.2.2)) l
    (fun rest s=>s.2.2.length+rest.length<=70/\I (kk+12000*((rest.map Part.cl).flatMap pre).length) s.2.1)
    (fun rest s r=>r=some (bif bCs bad rest then .Z9 7 else .ok ((Xl (rest.flatMap fun d=>Qd (.cl d) B) s.1,(Wcs bd s.2.1 env rest).1),s.2.2++(Wcs bd s.2.1 env rest).2))/\(bCs bad rest=false->I kk (Wcs bd s.2.1 env rest).1)) (F:=F) ?_ ?_ Va (fr,tk,[]) ⟨by simp;omega,hI⟩
   ·obtain⟨e,hi⟩:=this;dsimp only at e hi;rw[G5]at e;exact⟨e,hi⟩
   ·rintro⟨fr,tk,acc⟩ nx' ⟨hp1,hp2⟩;dsimp only at hp1 hp2 ⊢;rw[Zn6,ZnR];refine⟨?_,fun _=>ZqV hE Va hp2⟩;simp only[ZjO,Zp,Cq0,Gk];rfl
   ·rintro q x rest ⟨fr,tk,acc⟩ nx' hx hq hg ⟨hp1,hp2⟩ hr;dsimp only at hp1 hp2 ⊢;rw[G3,K2,K0]at hp2;simp only[Kf]at hp1;have ZCs:∀y∈pre (.cl x),y∈(l.map Part.cl).flatMap pre:=fun y hy=>Q2.2 ⟨_,Gj hx,hy⟩
    have hxs:(pre (.cl x)).all U2=true:=Kd.2 fun y hy=>hs y (ZCs y hy)
    have hxC:Wp x=true:=hs _ (ZCs _ (Yh _));have hxl:=Ux (Gj (f:=Part.cl) hx)
    have hif:x.form=1\/x.form=2:=by
     rcases(ZdY hxC).2 with h|h
     ·exact .inl h
     ·exact .inr h.1
    rw[K2,ZqR,ZqA,J5];dsimp only;have fin:∀y:Za,app 96 acc [y]=some (acc++[y]):=fun y=>QL (by simp;omega) Va
    have main:(bif x.form==2 then(ZjS F fr c x.text).bind fun y=>(n1 ((y.1,tk),x.defs)).bind fun d=>JS d (fun e=>some (.Z9 e)) fun d=>(ZN x.kids 0).bind fun k=>(nx (d.1,c,k)).bind fun z=>JS z (fun e=>some (.Z9 e)) fun z=>(app 96 acc [Za.mk x.form y.2 [] d.2 [z.2]]).bind fun a=>nx' (YX ((q:Int)+1),z.1,a) else(ZlU F Ye rl nx (fr,tk) c x).bind fun z=>JS z (fun e=>some (.Z9 e)) fun z=>(app 96 acc [z.2]).bind fun a=>nx' (YX ((q:Int)+1),z.1,a))=(bif bC bad x then some (.Z9 7) else nx' (YX ((q:Int)+1),(Xl (Qd (.cl x) B) fr,(Wc bd tk env x).1),acc++[(Wc bd tk env x).2]))/\(bC bad x=false->I (kk+12000*((rest.map Part.cl).flatMap pre).length) (Wc bd tk env x).1):=by
     rcases hif with h1|h2
     ·have hne:(x.form==2)=false:=by rw[h1];rfl
      obtain⟨e,hi⟩:=ZGw hF hE hc nx x hxs Va h1 Va Va (fun m hm=>htb.j (E0,l) Gy x hx m hm) (fun k hk=>hnx k (ZCs _ (ZQ (X5 hk) (Yh _)))) fr tk (kk+12000*((rest.map Part.cl).flatMap pre).length) (ZqV hE Va hp2);rw[hne];simp only[Cq0];rw[e,Bq0];refine⟨?_,hi⟩;cases bC bad x
      ·simp only[Cq0,ZeG,fin,Bq0]
      ·rfl
     ·have he2:(x.form==2)=true:=by rw[h2];rfl
      obtain⟨_,_,k,hk⟩:=KG hxC
      have hj0:x.joins=[]:=by
       rcases(ZdY hxC).2 with h|h
       ·omega
       ·exact h.2
      have hsz:(pre (.cl x)).length=((x.defs.map Part.cl).flatMap pre).length+(pre (.pr k)).length+1:=by
       rw[Xe];show((x.defs.map Part.cl++x.kids.map Part.pr).flatMap pre).length+1=_;rw[hk,J1,K0];simp
      have hbc:bC bad x=(bCs bad x.defs||bT bad k):=by
       rw[ZAt,h2,hk];show(bCs bad x.defs||bTs bad [k])=_;rw[Zfz,ZhS,Bool.or_false]
      obtain⟨e1,i1⟩:=hih x hx h2 fr tk (kk+12000*((rest.map Part.cl).flatMap pre).length+12000*(pre (.pr k)).length) (ZqV hE Va hp2);have hkm:k∈x.kids:=by rw[hk];simp
      have ht:=Zh6 (F:=F) x.text fr c Va hc (htb.text hx h2);have g0:ZN x.kids 0=some k:=by rw[hk];rfl
      rw[he2,hbc];simp only[Cq1];rw[ht,Bq0,e1,Bq0];cases hbd:bCs bad x.defs
      ·obtain⟨e2,i2⟩:=hnx k (ZCs _ (ZQ (X5 hkm) (Yh _))) (Xl (x.defs.flatMap fun d=>Qd (.cl d) B) fr) (Wcs bd tk env x.defs).1 c env B Bn bad (kk+12000*((rest.map Part.cl).flatMap pre).length) hc Va Va (i1 hbd);rw[ZqS h2,hk,ZfG,ZhW,Zee,hj0,hk];refine⟨?_,i2⟩;simp only[Cq0,ZeG,Gm];rw[show ZN [k] 0=some k from rfl,Bq0,e2,Bq0];cases bT bad k
       ·simp only[Cq0,ZeG,fin,Bq0,ZJ,GH,Gk,K2,J5]
       ·rfl
      ·exact⟨rfl,fun z=>by cases z⟩
    obtain⟨m1,m2⟩:=main;simp only[ZjO,ZC hq,Cq1,hg,Bq0];rw[m1];cases hbx:bC bad x
    ·have:=hr (Xl (Qd (.cl x) B) fr,(Wc bd tk env x).1,acc++[(Wc bd tk env x).2]) ⟨by simp;omega,m2 hbx⟩;rw[XQ Va];obtain⟨r1,r2⟩:=this;dsimp only at r1 r2;refine⟨?_,r2⟩;rw[Cq0,r1,Gf];rfl
    ·exact⟨rfl,fun z=>by cases z⟩
def ZGm(hF:10000000000000000000<=F)(hE:BE F I Ye rl fl bd):∀n t,(pre (.pr t)).all U2=true->(pre (.pr t)).length<=n->n<=60->∀Fr,n<=Fr->TXg F I bd (loop Fr (Zco F Ye rl fl)) t:=by
 intro n
 induction n with
 | zero=>intro t _ hn;have:=YQ (.pr t);omega
 | succ n ih=>
   intro t hs hn h60 Fr hFr fr tk c env B Bn bad kk hc hcl hB hI;obtain⟨G,rfl⟩:∃G,Fr=G+1:=⟨Fr-1,by omega⟩
   rw[ZH]
   have hsz:(pre (.pr t)).length=((t.args.map Part.ex).flatMap pre).length+(((t.defs.map Part.cl).flatMap pre).length+((t.kids.map Part.pr).flatMap pre).length)+1:=by
    rw[Xe];show((t.args.map Part.ex++t.defs.map Part.cl++t.kids.map Part.pr).flatMap pre).length+1=_;rw[J1,J1,K0,K0];omega
   have hall:∀{x},x∈pre (.pr t)->(pre x).all U2=true:=fun hx=>by
    rw[Kd]at hs ⊢;exact fun y hy=>hs y (XR hy hx)
   have hnext:∀x,Part.pr x∈pre (.pr t)->(pre (.pr x)).length<=n->TXg F I bd (loop G (Zco F Ye rl fl)) x:=fun x hx hl=>ih x (hall hx) hl Va G Va
   generalize loop G (Zco F Ye rl fl)=n1 at hnext;have hal:t.args.length<=((t.args.map Part.ex).flatMap pre).length:=by have:=Uy (t.args.map Part.ex);simpa using this
   have hkl:t.kids.length<=((t.kids.map Part.pr).flatMap pre).length:=by have:=Uy (t.kids.map Part.pr);simpa using this
   have hk:∀(fr tk:MB)(c:U NM)(env:NM)(B Bn:U Y)(bad:Y->Z)(tx:Y)(args:U Zi)(ds:U Za),CE c env B Bn bad->c.length+2*((t.kids.map Part.pr).flatMap pre).length<F->B.length+12000*((t.kids.map Part.pr).flatMap pre).length<=750000->I (kk+12000*((t.kids.map Part.pr).flatMap pre).length) tk ->
    Wo F t n1 tx args ((fr,tk),c,ds)=some (bif bTs bad t.kids then .Z9 7 else .ok ((Xl (t.kids.flatMap fun k=>Qd (.pr k) B) fr,(Wts bd tk env t.kids).1),Term.mk t.op tx args ds (Wts bd tk env t.kids).2))/\(bTs bad t.kids=false->I kk (Wts bd tk env t.kids).1):=fun fr tk c env B Bn bad tx args ds hc hcl hB hI=>by
    unfold Wo;dsimp only
    have:=ZiR (body:=Zfe t n1 c tx args ds) (fun(q:Nat)(s:MB×MB×U Term)=>((q:Int),(s.1,s.2.1),s.2.2)) t.kids
     (fun rest s=>s.2.2.length+rest.length<=70/\I (kk+12000*((rest.map Part.pr).flatMap pre).length) s.2.1)
     (fun rest s r=>r=some (bif bTs bad rest then .Z9 7 else .ok ((Xl (rest.flatMap fun k=>Qd (.pr k) B) s.1,(Wts bd s.2.1 env rest).1),Term.mk t.op tx args ds (s.2.2++(Wts bd s.2.1 env rest).2)))/\(bTs bad rest=false->I kk (Wts bd s.2.1 env rest).1)) (F:=F) ?_ ?_ Va (fr,tk,[]) ⟨by simp;omega,hI⟩
    ·obtain⟨e,hi⟩:=this;dsimp only at e hi;rw[G5]at e;exact⟨e,hi⟩
    ·rintro⟨fr,tk,acc⟩ nx' ⟨hp1,hp2⟩;dsimp only at hp1 hp2 ⊢;rw[ZhW,ZhS];refine⟨?_,fun _=>ZqV hE Va hp2⟩;simp only[Zfe,Zp,Cq0,Gk];rfl
    ·rintro q x rest ⟨fr,tk,acc⟩ nx' hx hq hg ⟨hp1,hp2⟩ hr;dsimp only at hp1 hp2 ⊢;rw[G3,K2,K0]at hp2;simp only[Kf]at hp1;have hxl:=Ux (Gj (f:=Part.pr) hx);have hkx:=ZX (XF hx);obtain⟨e2,i2⟩:=hnext x (ZQ (XF hx) (Yh _)) Va fr tk c env B Bn bad (kk+12000*((rest.map Part.pr).flatMap pre).length) hc Va Va (ZqV hE Va hp2);have fin:app 96 acc [(Wt bd tk env x).2]=some (acc++[(Wt bd tk env x).2]):=QL (by simp;omega) Va;rw[K2,ZfG,Zfz,J5];dsimp only;simp only[Zfe,ZC hq,Cq1,hg,Bq0,e2];cases hbx:bT bad x
     ·have:=hr (Xl (Qd (.pr x) B) fr,(Wt bd tk env x).1,acc++[(Wt bd tk env x).2]) ⟨by simp;omega,i2 hbx⟩;obtain⟨r1,r2⟩:=this;dsimp only at r1 r2;refine⟨?_,r2⟩;simp only[Cq0,ZeG,fin,Bq0,Gm];rw[XQ Va,r1,Gf];rfl
     ·exact⟨rfl,fun z=>by cases z⟩
   have ha:∀(fr:MB)(tx:Y),Zbh F Ye rl fl t n1 tk c (fr,tx)=(bif t.op==4 then(Zsd F t.defs).bind fun cp=>(app 16 cp.1 cp.2).bind fun names=>(Ye tk c names (fl t)).bind fun bd=>(Zt0 F Ye rl n1 (bd.2::c) (notes B (t.args.flatMap nmE) fr,bd.1) t.defs).bind fun d=>JS d (fun e=>some (.Z9 e)) fun d=>Wo F t n1 tx (t.args.map (exW env)) (d.1,bd.2::c,d.2) else Wo F t n1 tx (t.args.map (exW env)) ((notes B (t.args.flatMap nmE) fr,tk),c,[])):=fun fr tx=>by
    unfold Zbh;dsimp only
    refine ZM (body:=Zff F Ye rl fl t n1 tk c tx) (fun(q:Nat)(s:MB×U Zi)=>((q:Int),s.1,s.2)) t.args (fun rest s=>s.2.length+rest.length<=70)
     (fun rest s=>(bif t.op==4 then(Zsd F t.defs).bind fun cp=>(app 16 cp.1 cp.2).bind fun names=>(Ye tk c names (fl t)).bind fun bd=>(Zt0 F Ye rl n1 (bd.2::c) (notes B (rest.flatMap nmE) s.1,bd.1) t.defs).bind fun d=>JS d (fun e=>some (.Z9 e)) fun d=>Wo F t n1 tx (s.2++rest.map (exW env)) (d.1,bd.2::c,d.2) else Wo F t n1 tx (s.2++rest.map (exW env)) ((notes B (rest.flatMap nmE) s.1,tk),c,[]))) (F:=F) ?_ ?_ Va (fr,[]) (by simp;omega)
    ·rintro⟨fr,acc⟩ nx' hp;simp only[Zff,Zp,Cq0,List.map_nil,Gk,GH];rfl
    ·rintro q x rest ⟨fr,acc⟩ nx' hx hq hg hp hr;simp only[Kf]at hp;have hkx:=ZX (JG hx);have he:ZFv F c fr x=some (notes B (nmE x) fr,exW env x):=ZM4 hF hc Va n x fr (hall (ZQ (JG hx) (Yh _))) Va Va F Va;have fin:app 56 acc [exW env x]=some (acc++[exW env x]):=QL (by simp;omega) Va;simp only[Zff,ZC hq,Cq1,hg,Bq0,he,fin];rw[XQ Va];refine(hr (notes B (nmE x) fr,acc++[exW env x]) (by simp;omega)).trans ?_;simp only[K2,ZeL,G3,Gf,List.singleton_append]
   have hb:∀(fr:MB)(tx:Y),tx=tx0 env t.text->Zbh F Ye rl fl t n1 tk c (fr,tx)=some (bif(bif t.op==4 then bCs (Jk bad (Wv t.defs)) t.defs||bTs (Jk bad (Wv t.defs)) t.kids else bTs bad t.kids) then .Z9 7 else .ok ((Xl (((t.args.flatMap nmE).map fun s=>(s,B))++(t.defs.flatMap (fun c=>Qd (.cl c) (bnd t B))++t.kids.flatMap (fun k=>Qd (.pr k) (bnd t B)))) fr,(Wt bd tk env t).1),(Wt bd tk env t).2))/\((bif t.op==4 then bCs (Jk bad (Wv t.defs)) t.defs||bTs (Jk bad (Wv t.defs)) t.kids else bTs bad t.kids)=false->I kk (Wt bd tk env t).1):=fun fr tx htx=>by
    rw[ha,J5,J5,Zrs];by_cases h4:t.op=4
    ·have e4:(t.op==4)=true:=by rw[h4];rfl
     obtain⟨a,b,c'⟩:=Zht Va hs (Yh (.pr t));obtain⟨n1',n2'⟩:=Zj9 a b c';have hdl:(Wv t.defs).length<=11040:=by unfold Wv;rw[K0];omega
     have hbn:bnd t B=B++Wv t.defs:=by unfold bnd;rw[e4];rfl
     have hin:inT bd tk env t=((bd tk env (Wv t.defs) (.pr t)).1,ext env (Wv t.defs) (bd tk env (Wv t.defs) (.pr t)).2):=by unfold inT;rw[e4];rfl
     obtain⟨mb,hbb,hci,hIb⟩:=hE.t tk c env B Bn bad t (kk+12000*((t.kids.map Part.pr).flatMap pre).length+12000*((t.defs.map Part.cl).flatMap pre).length) hc hcl hB hs Va h4 hdl (ZqV hE Va hI);rw[ZAZ h4,hin,hbn,e4];simp only[Cq1];generalize bd tk env (Wv t.defs) (.pr t)=bv at hbb hci hIb;obtain⟨tk1,to⟩:=bv;dsimp only at hbb hci hIb ⊢;generalize ext env (Wv t.defs) to=en at hci ⊢;have a1:app 16 (QN t.defs).1 (QN t.defs).2=some (Wv t.defs):=QL Va Va;rw[Zz8 hF t.defs a b c',Bq0,a1,Bq0,hbb,Bq0];dsimp only;have hBl:(B++Wv t.defs).length<=B.length+11040:=by rw[K0];omega
     obtain⟨e1,i1⟩:=ZvQ hF hE hci n1 n t.defs Va Va (fun y hy=>Kd.1 hs y (by rw[pre_eq];refine Ks _ ?_;show y∈(t.args.map Part.ex++t.defs.map Part.cl++t.kids.map Part.pr).flatMap pre;rw[J1,J1];exact List.mem_append_left _ (GM _ hy)))
      (fun y hy=>by
        have hym:Part.pr y∈pre (.pr t):=by rw[pre_eq];refine Ks _ ?_;show _∈(t.args.map Part.ex++t.defs.map Part.cl++t.kids.map Part.pr).flatMap pre;rw[J1,J1];exact List.mem_append_left _ (GM _ hy)
        obtain⟨z,hz,hyz⟩:=Q2.1 hy;obtain⟨d,hd,rfl⟩:=Jn.1 hz;have:=XV hyz;have:=Ux hz;exact hnext y hym Va) (ZJf Bn) F Va (notes B (t.args.flatMap nmE) fr) tk1 (kk+12000*((t.kids.map Part.pr).flatMap pre).length) (by simp only[Kf];omega) Va hIb
     unfold Zt0;rw[e1,Bq0];cases hbd:bCs (Jk bad (Wv t.defs)) t.defs
     ·obtain⟨e2,i2⟩:=hk (Xl (t.defs.flatMap fun d=>Qd (.cl d) (B++Wv t.defs)) (notes B (t.args.flatMap nmE) fr)) (Wcs bd tk1 en t.defs).1 (mb::c) en (B++Wv t.defs) (Bn++Wv t.defs) (Jk bad (Wv t.defs)) tx (t.args.map (exW env)) (Wcs bd tk1 en t.defs).2 hci (by simp only[Kf];omega) Va (i1 hbd);refine⟨?_,i2⟩;simp only[Cq0,ZeG,Gm];rw[e2,htx]
     ·exact⟨rfl,fun z=>by cases z⟩
    ·have e4:(t.op==4)=false:=by simpa using h4
     have hbn:bnd t B=B:=by unfold bnd;rw[e4];rfl
     have hd0:t.defs=[]:=Zll (Kd.1 hs _ (Yh (.pr t))) h4;rw[Zur h4,hbn,e4,hd0];simp only[Cq0,GH];obtain⟨e2,i2⟩:=hk (notes B (t.args.flatMap nmE) fr) tk c env B Bn bad tx (t.args.map (exW env)) [] hc Va Va (ZqV hE Va hI);refine⟨?_,i2⟩;rw[e2,htx];rfl
   rw[Zaq,ZFK];unfold Zco;dsimp only;by_cases ht:t.text=E0
   ·have:decide (t.text=(⟨#[]⟩:Y))=true:=decide_eq_true ht;rw[this,if_pos ht];simp only[KK,Cq0,G5,Gq,Gm];exact hb fr E0 (by unfold tx0;rw[if_pos ht])
   ·have:decide (t.text=(⟨#[]⟩:Y))=false:=decide_eq_false ht;rw[this,if_neg ht];simp only[Ge,Cq1,Gd];rw[Zom t.text fr c Va hc,Bq0];cases hbx:bad t.text
    ·simp only[Gm];exact hb (note fr B t.text) (tx1 env t.text) (by unfold tx0;rw[if_neg ht])
    ·exact⟨rfl,fun z=>by cases z⟩
end
end
section
def ZlA{κ ν:Type}[DecidableEq κ](p:κ×ν)(l:U (κ×ν))(k:κ):ZR (p::l) k=if p.1=k then some p.2 else ZR l k:=by
 unfold ZR;rw[Yg];by_cases h:p.1=k
 ·rw[if_pos h,if_pos h];rfl
 ·rw[if_neg h,if_neg h];cases Yg l k<;>rfl
def ZiK{κ ν:Type}[DecidableEq κ](l r:U (κ×ν))(k:κ):ZR (l++r) k=match ZR l k with|some v=>some v|none=>ZR r k:=by
 cases h:ZR l k with
 | some v=>exact ZaE h
 | none=>exact U9 h
def ZiJ{κ ν:Type}[DecidableEq κ]{l:U (κ×ν)}{k:κ}{v:ν}(h:ZR l k=some v):(k,v)∈l:=by
 induction l with
 | nil=>cases h
 | cons p l ih=>
   rw[ZlA]at h;by_cases hk:p.1=k
   ·rw[if_pos hk]at h;cases h;subst hk;exact Gy
   ·rw[if_neg hk]at h;exact Ks _ (ih h)
def ZbZ{κ ν:Type}[DecidableEq κ]{l:U (κ×ν)}{k:κ}:(ZR l k).isSome=true↔k∈l.map (·.1):=by
 induction l with
 | nil=>simp[ZR,Yg]
 | cons p l ih=>
   rw[ZlA];by_cases hk:p.1=k
   ·rw[if_pos hk];simp[hk]
   ·rw[if_neg hk,ih];simp[Ne.symm hk]
def zip_fst{α β:Type}:∀(l:U α)(r:U β),l.length=r.length->(l.zip r).map (·.1)=l
 | [],_,_=>rfl
 | x::l,[],h=>by cases h
 | x::l,y::r,h=>by rw[List.zip_cons_cons,G3,zip_fst l r (by simpa using h)]
def ZB2(x:Y):(pre (.ex (nam x))).length=1:=by rw[Xe];rfl
def ext_get{l to:U Y}(hl:l.length=to.length)(env:NM)(x:Y):(x∈l/\∃y∈to,ZR (ext env l to) x=some (nam y))\/(x∉l/\ZR (ext env l to) x=ZR env x):=by
 have hk:(ZR ((l.zip to).map fun p=>(p.1,nam p.2)).reverse x).isSome=true↔x∈l:=by
  rw[ZbZ,List.map_reverse,List.mem_reverse,GE];show x∈(l.zip to).map (·.1)↔_;rw[zip_fst l to hl]
 unfold ext;rw[ZiK];cases hg:ZR ((l.zip to).map fun p=>(p.1,nam p.2)).reverse x with
 | none=>
   rw[hg]at hk;exact .inr ⟨by simpa using hk,rfl⟩
 | some v=>
   rw[hg]at hk;have:=ZiJ hg;rw[List.mem_reverse,Jn]at this;obtain⟨q,hq,e⟩:=this;cases e;exact .inl ⟨hk.1 rfl,q.2,(List.of_mem_zip hq).2,rfl⟩
def ZBb{c:U NM}{env:NM}{B Bn:U Y}{bad:Y->Z}(h:CE c env B Bn bad){l to:U Y}(hl:l.length=to.length){m:NM}(hm:∀x,ZR m x=ZR ((l.zip to).map fun p=>(p.1,nam p.2)).reverse x):CE (m::c) (ext env l to) (B++l) (Bn++l) (Jk bad l):=by
 refine⟨fun x=>?_,fun x e he=>?_,fun x=>?_,fun x=>?_,fun x hx=>?_⟩
 ·unfold ext ZvT;rw[ZiK,hm x,h.get x];cases ZR ((l.zip to).map fun p=>(p.1,nam p.2)).reverse x<;>rfl
 ·rcases ext_get hl env x with⟨_,y,_,hy⟩|⟨_,hy⟩
  ·rw[hy]at he;cases he;rw[ZB2];omega
  ·rw[hy]at he;exact h.sz x e he
 ·rw[Q1,h.b x];rcases ext_get hl env x with⟨h1,y,_,hy⟩|⟨h1,hy⟩
  ·rw[hy];simp[h1]
  ·rw[hy];simp[h1]
 ·unfold Jk;rcases ext_get hl env x with⟨h1,y,_,hy⟩|⟨h1,hy⟩
  ·rw[hy,decide_eq_true h1]
   constructor
   ·intro z;simp at z
   ·rintro⟨e,he,h2⟩;cases he;exact absurd rfl h2
  ·rw[hy,decide_eq_false h1]
   simpa using h.bd x
 ·rw[Q1]at hx ⊢;unfold Jk;by_cases h1:x∈l
  ·exact⟨.inr h1,by rw[decide_eq_true h1];simp⟩
  ·obtain⟨z1,z2⟩:=h.nb x (hx.resolve_right h1);exact⟨.inl z1,by rw[z2];rfl⟩
def Zgw(l:U Y)(x:Y):ZR (bindM l []) x=ZR ((l.zip l).map fun p=>(p.1,nam p.2)).reverse x:=by
 rw[Zgv]
 have:∀l:U Y,(l.zip l).map (fun p=>(p.1,nam p.2))=l.map fun y=>(y,nam y):=by
  intro l
  induction l with
  | nil=>rfl
  | cons y l ih=>rw[List.zip_cons_cons,G3,ih];rfl
 rw[this];by_cases hx:x∈l
 ·rw[if_pos hx]
  have:(ZR (l.map fun y=>(y,nam y)).reverse x).isSome=true:=by
   rw[ZbZ,List.map_reverse,List.mem_reverse,GE];exact Jn.2 ⟨x,hx,rfl⟩
  cases hg:ZR (l.map fun y=>(y,nam y)).reverse x with
  | none=>rw[hg]at this;cases this
  | some v=>
    have:=ZiJ hg;rw[List.mem_reverse,Jn]at this;obtain⟨q,_,e⟩:=this;cases e;rfl
 ·rw[if_neg hx];cases hg:ZR (l.map fun y=>(y,nam y)).reverse x with
  | none=>rfl
  | some v=>
    have:=ZiJ hg;rw[List.mem_reverse,Jn]at this;obtain⟨q,hq,e⟩:=this;cases e;exact absurd hq hx
def bdI{σ:Type}:BF σ:=fun s _ l _=>(s,l)
def ZN5{F:Nat}(hF:10000000000000000000<=F)(rl:Za->U Y->O MB)(fl:Term->O MB):BE F (fun _ _=>True) (Zat F) rl fl bdI where
 mono:=fun _ _ _ _=>trivial
 t:=fun tk c env B Bn bad t k hc _ _ _ _ _ hl _=>⟨bindM (Wv t.defs) [],by unfold Zat;rw[bind_eq hF _ Va];rfl,ZBb hc rfl (Zgw _),trivial⟩
 r:=fun tk c env B Bn bad p k hc _ _ _ _ _ hl _=>⟨bindM (ZJ p.joins) [],by unfold Zat;rw[bind_eq hF _ Va];rfl,ZBb hc rfl (Zgw _),trivial⟩
def IdE(env:NM):Prop:=∀x e,ZR env x=some e->e=nam x
def ZhX{env:NM}(h:IdE env)(l:U Y):IdE (ext env l l):=fun x e he=>by
 unfold ext at he;rw[ZiK,<-Zgw,Zgv]at he;by_cases hx:x∈l
 ·rw[if_pos hx]at he;cases he;rfl
 ·rw[if_neg hx]at he;simp only[ZR,Yg,Option.map_none]at he;exact h x e he
def ZEh:IdE []:=fun x e he=>by cases he
def Zms{env:NM}(h:IdE env)(x:Y):tx1 env x=x:=by
 unfold tx1;cases hg:ZR env x with
 | none=>rfl
 | some e=>rw[h x e hg];rfl
def ZwK{env:NM}(h:IdE env)(x:Y):tx0 env x=x:=by
 unfold tx0;split
 ·rename_i e;exact e.symm
 ·exact Zms h x
def ZIo{env:NM}(h:IdE env):∀n e,(pre (.ex e)).all U2=true->(pre (.ex e)).length<=n->exW env e=e:=by
 intro n
 induction n with
 | zero=>intro e _ hn;have:=YQ (.ex e);omega
 | succ n ih=>
   intro e hs hn;have hsh:Zaj e=true:=Kd.1 hs _ (Yh _);rw[ZzW];cases h2:e.op==2
   ·have:e.kids.map (exW env)=e.kids:=by
     conv=>rhs;rw[<-List.map_id e.kids]
     exact GA fun x hx=>ih x (by rw[Kd]at hs ⊢;exact fun y hy=>hs y (ZQ (XY hx) hy)) (by have:=ZX (XY hx);omega)
    rw[this];show Zi.mk e.op e.n e.text e.kids=e;cases e;rfl
   ·cases hg:ZR env e.text with
    | none=>rfl
    | some y=>
      have h2':e.op=2:=by simpa using h2
      have hk:e.kids=[]/\e.n=0:=by
       unfold Zaj at hsh;rw[h2']at hsh;simp only[Int.reduceBEq,Cq1,Cq0,Ba0,beq_iff_eq]at hsh;exact⟨Q4 hsh.2,hsh.1.2⟩
      rw[h _ _ hg];obtain⟨op,nn,tx,ks⟩:=e;simp only at h2' hk;obtain⟨rfl,rfl⟩:=hk;subst h2';rfl
def ZFB(t:Term):Term.mk t.op t.text t.args t.defs t.kids=t:=by cases t;rfl
def ZFD(t:Za):Za.mk t.form t.text t.joins t.defs t.kids=t:=by cases t;rfl
def ZRF{σ:Type}:∀n,(∀t,(pre (.pr t)).all U2=true->(pre (.pr t)).length<=n->∀(s:σ) env,IdE env->Wt bdI s env t=(s,t))/\(∀c,(pre (.cl c)).all U2=true->(pre (.cl c)).length<=n->∀(s:σ) env,IdE env->Wc bdI s env c=(s,c)):=by
 intro n
 induction n with
 | zero=>exact⟨fun t _ hn=>by have:=YQ (.pr t);omega,fun t _ hn=>by have:=YQ (.cl t);omega⟩
 | succ n ih=>
   have hts:∀(l:U Term),(∀x∈l,(pre (.pr x)).all U2=true/\(pre (.pr x)).length<=n)->∀(s:σ) env,IdE env->Wts bdI s env l=(s,l):=by
    intro l
    induction l with
    | nil=>intro _ s env _;rw[ZhW]
    | cons x l ihl=>
      intro h s env he;have hx:=h x (by simp);rw[ZfG,ih.1 x hx.1 hx.2 s env he,ihl (fun y hy=>h y (Ks _ hy)) s env he]
   have hcs:∀(l:U Za),(∀x∈l,(pre (.cl x)).all U2=true/\(pre (.cl x)).length<=n)->∀(s:σ) env,IdE env->Wcs bdI s env l=(s,l):=by
    intro l
    induction l with
    | nil=>intro _ s env _;rw[Zn6]
    | cons x l ihl=>
      intro h s env he;have hx:=h x (by simp);rw[ZqR,ih.2 x hx.1 hx.2 s env he,ihl (fun y hy=>h y (Ks _ hy)) s env he]
   have sub:∀{p k:Part},(pre p).all U2=true->(pre p).length<=n+1->k∈ZE p->(pre k).all U2=true/\(pre k).length<=n:=fun hs hn hk=>⟨by rw[Kd]at hs ⊢;exact fun y hy=>hs y (ZQ hk hy),by have:=ZX hk;omega⟩
   constructor
   ·intro t hs hn s env he
    have ha:t.args.map (exW env)=t.args:=by
     conv=>rhs;rw[<-List.map_id t.args]
     exact GA fun x hx=>ZIo he n x (sub hs hn (JG hx)).1 (sub hs hn (JG hx)).2
    by_cases h4:t.op=4
    ·have hin:inT bdI s env t=(s,ext env (Wv t.defs) (Wv t.defs)):=by unfold inT;rw[h4];rfl
     rw[ZAZ h4,hin];dsimp only;rw[hcs t.defs (fun x hx=>sub hs hn (Y4 hx)) s _ (ZhX he _)];dsimp only;rw[hts t.kids (fun x hx=>sub hs hn (XF hx)) s _ (ZhX he _),ha,ZwK he,ZFB]
    ·have hd0:t.defs=[]:=Zll (Kd.1 hs _ (Yh (.pr t))) h4;rw[Zur h4,hts t.kids (fun x hx=>sub hs hn (XF hx)) s env he,ha,ZwK he];dsimp only;rw[<-hd0,ZFB]
   ·intro c hs hn s env he;have hC:Wp c=true:=Kd.1 hs _ (Yh _);by_cases h2:c.form=2
    ·rw[ZqS h2,hcs c.defs (fun x hx=>sub hs hn (YK hx)) s env he];dsimp only;rw[hts c.kids (fun x hx=>sub hs hn (X5 hx)) s env he,Zms he]
     have hj0:c.joins=[]:=by
      rcases(ZdY hC).2 with h|h
      ·omega
      ·exact h.2
     dsimp only;rw[<-hj0,ZFD]
    ·have hf:c.form=1:=by
      rcases(ZdY hC).2 with h|h
      ·exact h
      ·exact absurd h.1 h2
     obtain⟨ht,hd⟩:=Zln hC hf;have hin:inC bdI s env c=(s,ext env (ZJ c.joins) (ZJ c.joins)):=by unfold inC;rw[hf];rfl
     have hj:c.joins.map (ZoS env (ext env (ZJ c.joins) (ZJ c.joins)))=c.joins:=by
      conv=>rhs;rw[<-List.map_id c.joins]
      refine GA fun m hm=>?_
      unfold ZoS;rw[Zms he]
      have:m.names.map (tx1 (ext env (ZJ c.joins) (ZJ c.joins)))=m.names:=by
       conv=>rhs;rw[<-List.map_id m.names]
       exact GA fun x _=>Zms (ZhX he _) x
      rw[this];rfl
     rw[Zus h2,hin];dsimp only;rw[hts c.kids (fun x hx=>sub hs hn (X5 hx)) s _ (ZhX he _),hj];dsimp only;rw[<-ht,<-hd,ZFD]
def ZJm:CE [[]] [] [] [] (fun _=>false):=⟨fun x=>rfl,fun x e he=>(by cases he),fun x=>by simp[ZR,Yg],fun x=>⟨fun z=>(by cases z),fun⟨e,he,_⟩=>(by cases he)⟩,fun x hx=>(by cases hx)⟩
def ZDT:∀n,(∀t,(pre (.pr t)).length<=n->∀bad,(∀x,bad x=false)->bT bad t=false)/\(∀c,(pre (.cl c)).length<=n->∀bad,(∀x,bad x=false)->bC bad c=false):=by
 intro n
 induction n with
 | zero=>exact⟨fun t hn=>by have:=YQ (.pr t);omega,fun t hn=>by have:=YQ (.cl t);omega⟩
 | succ n ih=>
   have hts:∀(l:U Term),(∀x∈l,(pre (.pr x)).length<=n)->∀bad,(∀x,bad x=false)->bTs bad l=false:=by
    intro l
    induction l with
    | nil=>intro _ bad _;rw[ZhS]
    | cons x l ihl=>intro h bad hb;rw[Zfz,ih.1 x (h x (by simp)) bad hb,ihl (fun y hy=>h y (Ks _ hy)) bad hb];rfl
   have hcs:∀(l:U Za),(∀x∈l,(pre (.cl x)).length<=n)->∀bad,(∀x,bad x=false)->bCs bad l=false:=by
    intro l
    induction l with
    | nil=>intro _ bad _;rw[ZnR]
    | cons x l ihl=>intro h bad hb;rw[ZqA,ih.2 x (h x (by simp)) bad hb,ihl (fun y hy=>h y (Ks _ hy)) bad hb];rfl
   have hless:∀(bad:Y->Z) l,(∀x,bad x=false)->∀x,Jk bad l x=false:=fun bad l h x=>by unfold Jk;rw[h x];rfl
   constructor
   ·intro t hn bad hb;rw[ZFK,hb,hcs t.defs (fun x hx=>by have:=ZX (Y4 hx);omega) _ (hless bad _ hb),hts t.kids (fun x hx=>by have:=ZX (XF hx);omega) _ (hless bad _ hb),hts t.kids (fun x hx=>by have:=ZX (XF hx);omega) _ hb];simp
   ·intro c hn bad hb;rw[ZAt,hcs c.defs (fun x hx=>by have:=ZX (YK hx);omega) _ hb,hts c.kids (fun x hx=>by have:=ZX (X5 hx);omega) _ hb,hts c.kids (fun x hx=>by have:=ZX (X5 hx);omega) _ (hless bad _ hb)];simp
def Zd5{F:Nat}(hF:10000000000000000000<=F)(t:Term)(hs:(pre (.pr t)).all U2=true)(hn:(pre (.pr t)).length<=60):ZvG F t=some (Xl (Qd (.pr t) []) [])/\ZvF F t=some t:=by
 have h:=(ZGm hF (ZN5 hF (fun _ _=>none) (fun _=>none)) 60 t hs hn Vb F Va [] [] [[]] [] [] [] _ 0 ZJm (by simp only[Kf,Gx];omega) (by simp;omega) trivial).1;rw[(ZRF 60).1 t hs hn [] [] ZEh,(ZDT 60).1 t hn _ fun _=>rfl]at h;have h':Zt8 F (Zat F) (fun _ _=>none) (fun _=>none) (([],[]),[[]],t)=_:=h;unfold ZvG ZvF;rw[h'];exact⟨rfl,rfl⟩
def Zvi{ν:Type}(m:U (Y×ν))(x:Y)(v:ν):(Xw m x v).map (·.1)=if x∈m.map (·.1) then m.map (·.1) else m.map (·.1)++[x]:=by
 have h:=ZbZ (l:=m) (k:=x);unfold ZR at h;unfold Xw;cases e:Yg m x with
 | none=>
   rw[e]at h;rw[if_neg (by rw[<-h];simp)];simp
 | some q=>
   rw[e]at h;rw[if_pos (h.1 rfl)];have hq:=Za7 e;apply GU;intro i;simp only[GQ,List.getElem?_modify];by_cases hi:q.1=i
   ·subst hi;rw[hq];show Option.map _ (some (if q.1=q.1 then(x,v) else(x,q.2)))=_;rw[if_pos rfl];rfl
   ·cases m[i]?<;>simp[hi]
def Zvh(fr:MB)(e:Evt):(note fr e.2 e.1).map (·.1)=if e.1∈e.2\/e.1∈fr.map (·.1) then fr.map (·.1) else fr.map (·.1)++[e.1]:=by
 unfold note;by_cases h1:e.1∈e.2
 ·rw[if_pos h1,if_pos (.inl h1)]
 ·rw[if_neg h1,Zvi];by_cases h2:e.1∈fr.map (·.1)
  ·rw[if_pos h2,if_pos (.inr h2)]
  ·rw[if_neg h2,if_neg (by simp[h1,h2])]
def ZbY:∀(l:U Evt)(fr:MB),(fr.map (·.1)).Nodup->((Xl l fr).map (·.1)).Nodup/\(∀x,x∈(Xl l fr).map (·.1)↔x∈fr.map (·.1)\/∃e∈l,x=e.1/\e.1∉e.2)/\(Xl l fr).length<=fr.length+l.length
 | [],fr,h=>⟨h,fun x=>by simp[Xl],K1 _⟩
 | e::l,fr,h=>by
   have hk:=Zvh fr e
   have hn:((note fr e.2 e.1).map (·.1)).Nodup:=by
    rw[hk];by_cases hm:e.1∈e.2\/e.1∈fr.map (·.1)
    ·rw[if_pos hm];exact h
    ·rw[if_neg hm,List.nodup_append];refine⟨h,by simp,fun a ha b hb=>?_⟩;rw[G7.1 hb];exact fun e=>hm (.inr (e▸ha))
   obtain⟨i1,i2,i3⟩:=ZbY l (note fr e.2 e.1) hn;refine⟨i1,fun x=>(i2 x).trans ?_,?_⟩
   ·have hx:x∈(note fr e.2 e.1).map (·.1)↔x∈fr.map (·.1)\/(x=e.1/\e.1∉e.2):=by
     rw[hk];by_cases hm:e.1∈e.2\/e.1∈fr.map (·.1)
     ·rw[if_pos hm];refine⟨.inl,fun h=>h.elim id fun h=>?_⟩;rcases hm with hm|hm
      ·exact absurd hm h.2
      ·exact h.1▸hm
     ·rw[if_neg hm,Q1,G7];exact⟨fun h=>h.imp id fun e=>⟨e,fun z=>hm (.inl z)⟩,fun h=>h.imp id fun e=>e.1⟩
    rw[hx]
    constructor
    ·rintro((h|h) | ⟨e',he,h⟩)
     ·exact .inl h
     ·exact .inr ⟨e,by simp,h⟩
     ·exact .inr ⟨e',by simp[he],h⟩
    ·rintro(h|⟨e',he,h⟩)
     ·exact .inl (.inl h)
     ·rcases Kx.1 he with rfl|he
      ·exact .inl (.inr h)
      ·exact .inr ⟨e',he,h⟩
   ·have:(note fr e.2 e.1).length<=fr.length+1:=by
     have:=congrArg List.length hk;rw[JT]at this;rw[this];split<;>simp
    show(Xl l (note fr e.2 e.1)).length<=_;simp only[Kf];omega
def Zoo(a b:Y):ZgJ a b=decide (a.data.toList<b.data.toList):=Go.Proofs.bytesLess_eq _ _
def leS(a b:Y):Prop:=a.data.toList<=b.data.toList
def Zo1{a b:Y}(h1:leS a b)(h2:leS b a):a=b:=by
 have:=List.le_antisymm h1 h2;cases a;cases b;exact congrArg _ (GS.1 this)
def ZgX{s:Y}:∀{l:U Y},l.Pairwise leS->(Zdt l s).Pairwise leS
 | [],_=>by simp[Zdt]
 | x::l,h=>by
   unfold Zdt;rw[GW]at h;cases hx:ZgJ x s
   ·rw[Zoo,decide_eq_false_iff_not]at hx;have hsx:leS s x:=List.not_lt.1 hx;rw[Cq0,GW];refine⟨fun y hy=>?_,GW.2 h⟩;rcases Kx.1 hy with rfl|hy
    ·exact hsx
    ·exact List.le_trans hsx (h.1 y hy)
   ·rw[Zoo,decide_eq_true_eq]at hx;rw[Cq1,GW];refine⟨fun y hy=>?_,ZgX h.2⟩;rcases ZiN.1 hy with rfl|hy
    ·exact List.le_of_lt hx
    ·exact h.1 y hy
def ZiZ{s:Y}:∀{l:U Y},l.Nodup->s∉l->(Zdt l s).Nodup
 | [],_,_=>by simp[Zdt]
 | x::l,h,hs=>by
   unfold Zdt;rw[List.nodup_cons]at h;rw[Kx,not_or]at hs;cases ZgJ x s
   ·rw[Cq0,List.nodup_cons,Kx,not_or,List.nodup_cons];exact⟨hs,h⟩
   ·rw[Cq1,List.nodup_cons];exact⟨fun hm=>(ZiN.1 hm).elim (fun e=>hs.1 e.symm) h.1,ZiZ h.2 hs.2⟩
def UH:∀(l:U Evt)(o:U Y),o.Pairwise leS->o.Nodup->(Qc l o).Pairwise leS/\(Qc l o).Nodup
 | [],o,h1,h2=>⟨h1,h2⟩
 | e::l,o,h1,h2=>by
   show(Qc l (Zdr o e.2 e.1)).Pairwise leS/\(Qc l (Zdr o e.2 e.1)).Nodup;unfold Zdr;by_cases h:e.1∈e.2\/e.1∈o
   ·rw[if_pos h];exact UH l o h1 h2
   ·rw[if_neg h];exact UH l _ (ZgX h1) (ZiZ h2 fun z=>h (.inr z))
def Zor(m:MB):(ZaZ m).Pairwise leS:=by
 unfold ZaZ Zhd;refine List.Pairwise.map _ (fun a b h=>?_) (List.pairwise_mergeSort ZlD ZlE _)
 simpa[leS]using h
def ZuS(m:MB):(ZaZ m).Perm (m.map (·.1)):=by
 unfold ZaZ Zhd;refine((List.mergeSort_perm _ _).map _).trans ?_;unfold kbs;rw[GE];refine List.Perm.of_eq (GA fun p _=>?_)
 rfl
def Zrd(l:U Evt):ZaZ (Xl l [])=Qc l []:=by
 obtain⟨k1,k2,_⟩:=ZbY l [] List.nodup_nil;obtain⟨p1,p2⟩:=UH l [] List.Pairwise.nil List.nodup_nil;refine List.Perm.eq_of_pairwise (fun a b _ _ h1 h2=>Zo1 h1 h2) (Zor _) p1 ?_;refine(ZuS _).trans ((List.perm_ext_iff_of_nodup k1 p2).2 fun x=>?_);rw[k2,Zc1];simp
def ZrF{s:Y}(h:Qh s=true):s.size<=8:=by
 unfold Qh at h;simp only[Ba0,decide_eq_true_eq]at h;exact h.1.1.2
def ZvM:∀n p,(pre p).length<=n->(pre p).all U2=true->∀B,∀e∈Qd p B,Qh e.1=true:=by
 intro n
 induction n with
 | zero=>intro p hp;have:=YQ p;omega
 | succ n ih=>
   intro p hn hs B e he;have sub:∀{k:Part},k∈ZE p->∀B,∀e∈Qd k B,Qh e.1=true:=fun hk=>ih _ (by have:=ZX hk;omega) (by rw[Kd]at hs ⊢;exact fun y hy=>hs y (ZQ hk hy))
   have ZLF:∀x,(pre (.ex x)).all U2=true->∀s∈nmE x,Qh s=true:=fun x hx s hm=>by
    unfold nmE at hm;obtain⟨y,hy,hm⟩:=Q2.1 hm;cases y with
    | ex y=>
      have hy2:Zaj y=true:=Kd.1 hx _ hy;cases h2:y.op==2<;>simp only[nm1,h2,Cq1,Cq0]at hm
      ·cases hm
      ·rw[G7.1 hm];have h2':y.op=2:=by simpa using h2
       unfold Zaj at hy2;rw[h2']at hy2;simp only[Int.reduceBEq,Cq1,Cq0,Ba0]at hy2;exact hy2.1.1
    | pr y=>cases hm
    | cl y=>cases hm
   cases p with
   | ex x=>
     rw[Qd]at he;obtain⟨s,hm,rfl⟩:=Jn.1 he;exact ZLF x hs s hm
   | pr t=>
     rw[Zaq]at he;rcases Q1.1 he with he|he
     ·rcases Q1.1 he with he|he
      ·by_cases ht:t.text=E0
       ·rw[if_pos ht]at he;cases he
       ·rw[if_neg ht]at he;rw[G7.1 he];have hT:Zai t=true:=Kd.1 hs _ (Yh _);unfold Zai at hT;rw[Ba0]at hT;have h2:=hT.2;cases h:((t.op==2)||(t.op==6))||(t.op==8)<;>rw[h]at h2<;>simp only[Cq1,Cq0,decide_eq_true_eq]at h2
        ·exact absurd h2 ht
        ·exact h2
      ·obtain⟨s,hm,rfl⟩:=Jn.1 he;obtain⟨a,ha,hm⟩:=Q2.1 hm;exact ZLF a (by rw[Kd]at hs ⊢;exact fun y hy=>hs y (ZQ (JG ha) hy)) s hm
     ·rcases Q1.1 he with he|he
      ·obtain⟨d,hd,he⟩:=Q2.1 he;exact sub (Y4 hd) _ e he
      ·obtain⟨d,hd,he⟩:=Q2.1 he;exact sub (XF hd) _ e he
   | cl c=>
     rw[Zee]at he;rcases Q1.1 he with he|he
     ·obtain⟨d,hd,he⟩:=Q2.1 he;exact sub (YK hd) _ e he
     ·obtain⟨d,hd,he⟩:=Q2.1 he;exact sub (X5 hd) _ e he
def Zo6{t:Term}(hs:(pre (.pr t)).all U2=true)(hn:(pre (.pr t)).length<=60):Zf4 (Xl (Qd (.pr t) []) [])=true:=by
 obtain⟨k1,k2,k3⟩:=ZbY (Qd (.pr t) []) [] List.nodup_nil;have hl:=Zfq (.pr t) [];unfold Zf4;rw[Ba0,Ba0,decide_eq_true_eq,decide_eq_true_eq,Kd];refine⟨⟨k1,fun p hp=>?_⟩,by simp only[Gx]at k3;omega⟩;have:=(k2 p.1).1 (Gj hp);simp only[List.map_nil,Gc,false_or]at this;obtain⟨e,he,h1,_⟩:=this;have:=ZrF (ZvM _ _ Vb hs [] e he);rw[<-h1]at this;exact decide_eq_true Va
def Ze2(t:Term):U Y:=Qc (Qd (.pr t) []) []
end
end Go.Proofs.YtbnepjakjmnadaaGreat
end
end
section
noncomputable section
namespace Go.ZP
section
variable{P:V0}{W:V3}{E:Type}
def Znb(P:V0)(T:U J)(t:J):Z:=
 match P.underlying t with
 | some .bool=>true
 | some (.int _)=>true
 | some .string=>true
 | some (.slice e)=>T.contains e&&Nat.ble 1 (P.cellsOf e)
 | some (.struct fs)=>fs.toList.all (fun x=>T.contains x.type)&&Zbk P fs.toList 0 (P.cellsOf t)
 | _=>false
def ZQR{enc:J×N->E}{T:U J}(hT:T.all (Znb P T)=true):∀(fuel:Nat)(t:J)(cs:U N)(d:DataW E)(ps:U MemPlace),T.contains t=true->DataW.trod enc P W 0 (fun _=>true) true fuel t cs=some (d,ps)->Zmh P W t cs d:=by
 intro fuel
 induction fuel with
 | zero=>intro t cs d ps _ h;unfold DataW.trod at h;cases h
 | succ fuel ih=>
   intro t cs d ps hg h;have hg:Znb P T t=true:=(Kd.1 hT) t (Gv.1 hg);unfold Znb at hg;unfold DataW.trod at h;cases hu:P.underlying t with
   | none=>rw[hu]at hg;cases hg
   | some u=>
     rw[hu]at hg h;cases u with
     | bool=>
       split at h<;>try (first | (cases h;done) | (have hx:=‹some TypeDesc.bool=some _›;cases hx;done))
       cases h;exact Zdh rfl fun h=>.bool hu
     | int k=>
       split at h<;>try (first | (cases h;done) | (have hx:=‹some (TypeDesc.int k)=some _›;cases hx;done))
       rename_i hk;cases hk;split at h
       ·rename_i hw;cases h;obtain⟨rfl,hw⟩:=hw;exact Zdh rfl fun h=>.int hu hw
       ·cases h
     | string=>
       split at h<;>try (first | (cases h;done) | (have hx:=‹some TypeDesc.string=some _›;cases hx;done))
       split at h
       ·rename_i hw;cases h;exact Zdh rfl fun h=>.string hu hw
       ·cases h
     | slice e=>
       rw[Ba0]at hg;have hsz:=Nl0 hg.2;split at h<;>try (first | (cases h;done) | (have hx:=‹some (TypeDesc.slice e)=some _›;cases hx;done))
       ·cases h;exact Zdh rfl fun h=>.nil hu
       ·rename_i e' a len cap he;cases he;dsimp only at h;split at h
        ·rename_i hc;obtain⟨-,hlc,hcm⟩:=hc;rw[Option.bind_eq_some_iff]at h;obtain⟨elems,e1,h⟩:=h;rw[if_pos rfl,Option.map_eq_some_iff]at h;obtain⟨rest,e2,h⟩:=h;cases h;obtain⟨l1,g1⟩:=ZeP e1;obtain⟨l2,g2⟩:=ZeP e2;rw[List.length_range]at l1 l2;by_cases hcap:cap=0
         ·subst hcap;have hlen:len=0:=Va
          subst hlen;cases elems with
          | cons _ _=>simp at l1
          | nil=>
            cases rest with
            | cons _ _=>simp at l2
            | nil=>
              intro ρ h hr hn;exact⟨ρ,h,_,Ren.le_refl ρ,Grow.refl h,hr,hn,LR.single (.UG a),.empty hu⟩
         ·have hel:∀i,i<len->∃cs x,W.cells? 0 (a.add (i*P.cellsOf e)) (P.cellsOf e)=some cs/\DataW.trod enc P W 0 (fun _=>true) true fuel e cs=some x/\elems[i]? =some x:=by
           intro i hi;have hx:i<elems.length:=Va
           have:=g1 i i elems[i] (by simp[hi]) (by simp[hx]);rw[Option.bind_eq_some_iff]at this;obtain⟨cs,q1,q2⟩:=this;exact⟨cs,_,q1,q2,by simp[hx]⟩
          have h0:∃cs,W.cells? 0 a (P.cellsOf e)=some cs:=by
           have ha:a.add (0*P.cellsOf e)=a:=by rw[Nat.zero_mul];unfold Addr.add;rw[if_pos rfl]
           rcases Nat.eq_zero_or_pos len with hl|hl
           ·subst hl;have hx:0<rest.length:=Va
            have:=g2 0 0 rest[0] (by rw[List.getElem?_range Va]) (by simp[hx]);rw[Option.bind_eq_some_iff]at this;obtain⟨cs,q1,q2⟩:=this;rw[Nat.add_zero,ha]at q1;exact⟨cs,q1⟩
           ·obtain⟨cs,_,q,_⟩:=hel 0 hl;rw[ha]at q;exact⟨cs,q⟩
          have hcs:∀i,i<len->W.cells? 0 (a.add (i*P.cellsOf e)) (P.cellsOf e)=some ((W.cells? 0 (a.add (i*P.cellsOf e)) (P.cellsOf e)).getD []):=by
           intro i hi;obtain⟨cs,_,q,_⟩:=hel i hi;rw[q];rfl
          generalize ZQd:(fun i=>(W.cells? 0 (a.add (i*P.cellsOf e)) (P.cellsOf e)).getD [])=css;have hcs:∀i,i<len->W.cells? 0 (a.add (i*P.cellsOf e)) (P.cellsOf e)=some (css i):=fun i hi=>by rw[<-ZQd];exact hcs i hi
          obtain⟨hsp,c,el,fz,hb,hlim,hcell⟩:=Zsm hsz h0 hcs
          have hlg:∀i y,((List.range len).map fun i=>(e,css i,((elems[i]?).map (·.1)).getD .nil))[i]? =some y->i<len/\y=(e,css i,((elems[i]?).map (·.1)).getD .nil):=by
           intro i y hy;rw[GQ]at hy;rcases Gp i len with q|q
           ·rw[List.getElem?_range q]at hy;exact⟨q,(Oi0 hy).symm⟩
           ·rw[G9 (by simpa using q)]at hy;cases hy
          generalize hl:(List.range len).map (fun i=>(e,css i,((elems[i]?).map (·.1)).getD .nil))=l at hlg;have hll:l.length=len:=by rw[<-hl];simp
          have hm:l.map (·.2.2)=elems.map (·.1):=by
           apply GU;intro i;rw[<-hl,GE,GQ,GQ];rcases Gp i len with q|q
           ·rw[List.getElem?_range q];obtain⟨_,x,_,_,q2⟩:=hel i q;simp[q2]
           ·rw[G9 (by simpa using q),G9 Va];rfl
          have hlE:∀x∈l,Zmh P W x.1 x.2.1 x.2.2:=by
           intro x hx;obtain⟨i,hi⟩:=GB hx;obtain⟨hi2,rfl⟩:=hlg i x hi;obtain⟨cs,y,q1,q2,q3⟩:=hel i hi2;rw[hcs i hi2]at q1;cases q1;rw[q3];exact ih e _ _ y.2 hg.1 q2
          intro ρ h hr hn;obtain⟨ρ1,h1,els,p1,p2,p3,p4,p5,p6,p7⟩:=ZnF l hlE ρ h hr hn
          have hec:∀(i:Nat)(x:U N×DataW E),els[i]? =some x->i<len/\LR ρ1 x.1 (css i)/\x.1.length=P.cellsOf e/\AR P h1 e x.1 x.2:=by
           intro i x hx;have hi:i<els.length:=(Li0 hx).1;have hi2:i<l.length:=Va
           obtain⟨q,hy⟩:=hlg i l[i] (by simp[hi2]);have:=p7 i x l[i] hx (by simp[hi2]);rw[hy]at this;refine⟨q,this.1,?_,this.2⟩;rw[this.1.1];exact(Zgu (hcs i q) hsz).1
          have hsize:∀x∈els,x.1.length=P.cellsOf e:=fun x hx=>by
           obtain⟨i,hi⟩:=GB hx;exact(hec i x hi).2.2.1
          obtain⟨r1,r2,r3,r4⟩:=ZBZ (cs:=els.flatMap (·.1)) p3 p4 hb (by rw[Ze5 els hsize,p6,hll];exact hlim) (by
           intro k v v' k1 k2
           have hk:k<els.length*P.cellsOf e:=by
            rw[<-Ze5 els hsize];exact(Li0 k1).1
           have hd:k / P.cellsOf e*P.cellsOf e+k % P.cellsOf e=k:=by rw[Nat.mul_comm];exact Nat.div_add_mod _ _
           have hj:k % P.cellsOf e<P.cellsOf e:=Nat.mod_lt _ hsz;rw[<-hd,flat_get els hsize _ _ hj,Option.bind_eq_some_iff]at k1;obtain⟨x,x1,x2⟩:=k1;obtain⟨y1,y2,_,_⟩:=hec _ x x1;obtain⟨u,z1,z2⟩:=hcell _ _ y1 hj;rw[hd,k2]at z1;cases z1;exact y2.2 _ _ _ x2 z2)
          refine⟨_,_,[.slice (some ⟨h1.size,0,none⟩) els.length (2*cap)],Ren.le_trans p1 r1,p2.trans r2,r3,r4,LR.single ?_,?_⟩
          ·obtain⟨blk,off,spot⟩:=a;dsimp only at hsp;subst hsp;have ZP6:els.length=len:=Va
           rw[ZP6];exact VR.slice 0 len (2*cap) cap (Ren.add_same _ _ _ _) ⟨KB hcm (by decide),by rw[if_pos Va];omega⟩
          ·rw[<-hm,<-p5]
           exact .slice hu Va hcm (by rw[H.Qg,if_pos rfl]) hsize fun x hx=>by
            obtain⟨i,hi⟩:=GB hx;exact((hec i x hi).2.2.2).grow r2
        ·cases h
     | struct fs=>
       rw[Ba0]at hg;dsimp only at h;split at h
       ·rename_i hlen;rw[Option.map_eq_some_iff]at h;obtain⟨xs,e1,h⟩:=h;cases h;obtain⟨l1,g1⟩:=ZeP e1
        have hlg:∀(i:Nat)(y:J×U N×DataW E),(List.zipWith (fun(f:Field)(x:DataW E×U MemPlace)=>(f.type,(cs.drop f.offset).take (P.cellsOf f.type),x.1)) fs.toList xs)[i]? =some y ->
         ∃(f:Field) (x:DataW E×U MemPlace),fs.toList[i]? =some f/\xs[i]? =some x/\y=(f.type,(cs.drop f.offset).take (P.cellsOf f.type),x.1):=by
         intro i y hy;rw[List.getElem?_zipWith]at hy;split at hy
         ·rename_i f x hf hx;exact⟨f,x,hf,hx,(Oi0 hy).symm⟩
         ·cases hy
        generalize hl:List.zipWith (fun(f:Field)(x:DataW E×U MemPlace)=>(f.type,(cs.drop f.offset).take (P.cellsOf f.type),x.1)) fs.toList xs=l at hlg;have hll:l.length=fs.toList.length:=by rw[<-hl,List.length_zipWith,l1];exact Nat.min_self _
        have hget:∀(i:Nat)(f:Field),fs.toList[i]? =some f->∃x,xs[i]? =some x/\l[i]? =some (f.type,(cs.drop f.offset).take (P.cellsOf f.type),x.1)/\DataW.trod enc P W 0 (fun _=>true) true fuel f.type ((cs.drop f.offset).take (P.cellsOf f.type))=some x:=by
         intro i f hf;have hi:i<xs.length:=by rw[l1];exact(Li0 hf).1
         have hx:xs[i]? =some xs[i]:=by simp[hi]
         refine⟨xs[i],hx,?_,g1 i f _ hf hx⟩;rw[<-hl,List.getElem?_zipWith,hf,hx]
        have hm:l.map (·.2.2)=xs.map (·.1):=by
         apply GU;intro i;rw[GQ,GQ];cases hf:fs.toList[i]? with
         | some f=>
           obtain⟨x,q1,q2,_⟩:=hget i f hf;rw[q1,q2];rfl
         | none=>
           have:=List.getElem?_eq_none_iff.1 hf;rw[G9 Va,G9 Va];rfl
        have hlE:∀x∈l,Zmh P W x.1 x.2.1 x.2.2:=by
         intro y hy;obtain⟨i,hi⟩:=GB hy;obtain⟨f,x,hf,hx,rfl⟩:=hlg i y hi;have hgf:=(Kd.1 hg.1) f (GK hf);exact ih f.type _ _ x.2 hgf (g1 i f x hf hx)
        have hseg:cs=l.flatMap (·.2.1):=by
         have:=ZvE (P:=P) (cs:=cs) fs.toList 0 (by rw[hlen];exact hg.2);rw[List.drop_zero]at this
         have h3:l.map (·.2.1)=fs.toList.map fun(f:Field)=>(cs.drop f.offset).take (P.cellsOf f.type):=by
          apply GU;intro i;rw[GQ,GQ];cases hf:fs.toList[i]? with
          | some f=>
            obtain⟨x,q1,q2,_⟩:=hget i f hf;rw[q2];rfl
          | none=>
            have:=List.getElem?_eq_none_iff.1 hf;rw[G9 Va];rfl
         rw[List.flatMap_def,h3,<-List.flatMap_def];exact this
        intro ρ h hr hn;obtain⟨ρ1,h1,els,p1,p2,p3,p4,p5,p6,p7⟩:=ZnF l hlE ρ h hr hn
        have hlr:LR ρ1 (els.flatMap (·.1)) cs:=by
         rw[hseg];exact LR.flat els l p6 fun i x y e1 e2=>(p7 i x y e1 e2).1
        refine⟨ρ1,h1,els.flatMap (·.1),p1,p2,p3,p4,hlr,?_⟩;rw[<-hm,<-p5];refine .struct hu Va (fun i x f hx hf=>?_) fun i x f hx hf=>?_
        ·obtain⟨y,q1,q2,_⟩:=hget i f hf;rw[(p7 i x _ hx q2).1.1];have hmem:Zbk P fs.toList 0 cs.length=true:=by rw[hlen];exact hg.2
         obtain⟨c1,c2⟩:=Zsw _ _ _ hmem;have c3:=c2 i f hf;have hi:=(Li0 hf).1
         have c4:((fs.toList.take i).map fun f=>P.cellsOf f.type).sum+P.cellsOf f.type+((fs.toList.drop (i+1)).map fun f=>P.cellsOf f.type).sum=(fs.toList.map fun f=>P.cellsOf f.type).sum:=by
          have:fs.toList=fs.toList.take i++f::fs.toList.drop (i+1):=by
           have h5:fs.toList[i]=f:=(Li0 hf).2;rw[<-h5,List.getElem_cons_drop,List.take_append_drop]
          conv=>rhs;rw[this]
          simp only[GC,G3,List.sum_append,List.sum_cons];omega
         dsimp only;rw[Gu,GG];omega
        ·obtain⟨y,q1,q2,_⟩:=hget i f hf;exact(p7 i x _ hx q2).2
       ·cases h
     | _=>cases hg
end
section
open Go.Lf
variable{P:V0}
def Zrj{α:Type}{e:JY α}{V:α->Prop}{E:Type}{h:H}{els:U (U N×DataW E)}{i cap:Nat}(hl:els.length<=cap)(hcap:cap<=maxLen)(hat:h.at i=.row (els.flatMap (·.1)) false 0)(hsz:∀x∈els,x.1.length=e.sz)
 (hel:∀x∈els,∃p y,x.1=e.sh p y/\V y/\∀wm,e.F wm h p y):
 ∃(p:O Addr×Nat) (ys:U α),[Value.slice (some ⟨i,0,none⟩) els.length (2*cap)]=(YB e).sh p ys/\(∀y∈ys,V y)/\∀wm,(YB e).F wm h p ys:=by
 obtain⟨ys,h1,hv,h2⟩:=ZcA (e:=e) els hel;refine⟨(some ⟨i,0,none⟩,2*cap),ys,by show [Value.slice _ _ _]=[Value.slice _ _ _];rw[h1],hv,fun wm=>⟨?_,?_,.inr (.inr ⟨_,_,rfl⟩),.inr ⟨i,0,_,false,0,rfl,hat,.inr rfl,?_,fun k y hk=>?_⟩⟩⟩
 ·rw[h1];exact KB (KB hl hcap) (by decide)
 ·rw[h1];omega
 ·rw[h1,G0,Ze5 els hsz];exact K1 _
 ·obtain⟨x,p,q1,q2,q3⟩:=h2 k y hk;refine⟨p,?_,q3 wm⟩;rw[G0,Zd7 els hsz q1,q2]
end
end Go.ZP
end
end
section
set_option maxRecDepth 100000
noncomputable section
namespace Go.Proofs.YtbnepjakjmnadaaGreat
open Go.ZP Go.Lf
section
def wfI(n:Int):Prop:=(Lit.int .i64 n).wf=true
inductive ZsU:Zi->Prop
 | mk {x:Zi} (ho:wfI x.op) (hn:wfI x.n) (ht:x.text.size<=maxLen) (hk:∀y∈x.kids,ZsU y):ZsU x
def ZD7(x:Yk):Prop:=x.text.size<=maxLen/\∀s∈x.names,s.size<=maxLen
mutual
inductive ZfH:Term->Prop
 | mk {x:Term} (ho:wfI x.op) (ht:x.text.size<=maxLen) (ha:∀y∈x.args,ZsU y) (hd:∀y∈x.defs,Zdn y) (hk:∀y∈x.kids,ZfH y):ZfH x
inductive Zdn:Za->Prop
 | mk {x:Za} (ho:wfI x.form) (ht:x.text.size<=maxLen) (ha:∀y∈x.joins,ZD7 y) (hd:∀y∈x.defs,Zdn y) (hk:∀y∈x.kids,ZfH y):Zdn x
end
def ZKg:WA XX.P (Zxb .i64) wfI 34:=.int Kq0 Kq0
def ZKh:WA XX.P (Zxb .i64) wfI 28:=.int Kq0 Kq0
def ZGv:WA XX.P (Zxb .i64) wfI 127:=.int Kq0 Kq0
def ZO7:WA XX.P (Zxb .i64) wfI 3:=.int Kq0 Kq0
def Zw5:WA XX.P Xb (fun s=>s.size<=maxLen) 9:=.str Kq0 Kq0
def ZKf:WA XX.P (YB Xb) (fun l=>∀x∈l,x.size<=maxLen) 22:=.slice Kq0 Kq0 Zw5
def ZGt:WA XX.P Yj ZD7 136:=⟨by kernel_rfl,fun a=>by
 obtain⟨els,rfl,hl,hel⟩:=a.ZuP Tryz.underlying136
 match els,hl,hel with
 | [x0,x1],_,hel=>
   obtain⟨p0,y0,e0,v0,f0⟩:=Zw5.2 (hel 0 x0 _ rfl rfl);obtain⟨p1,y1,e1,v1,f1⟩:=ZKf.2 (hel 1 x1 _ rfl rfl);exact⟨p1,⟨y0,y1⟩,by simp only[K2,GH,e0,e1];rfl,⟨v0,v1⟩,fun wm=>f1 wm⟩⟩
def ZGu:WA XX.P (YB Yj) (fun l=>∀x∈l,ZD7 x) 128:=.slice Kq0 Kq0 ZGt
def ZqT(h:H)(cs:U N){α:Type}(e:JY α)(V:α->Prop):Prop:=∃p x,cs=e.sh p x/\V x/\∀wm,e.F wm h p x
structure ZA1(h:H)(t:TypeId)(cs:List Value):Prop where
 fe:t=36->ZqT h cs Zh ZsU
 fel:t=29->ZqT h cs (YB Zh) (fun l=>∀x∈l,ZsU x)
 ft:t=33->ZqT h cs Zm ZfH
 ftl:t=31->ZqT h cs (YB Zm) (fun l=>∀x∈l,ZfH x)
 fc:t=130->ZqT h cs Zc Zdn
 fcl:t=30->ZqT h cs (YB Zc) (fun l=>∀x∈l,Zdn x)
def Zxs{h:H}{α:Type}{e:JY α}{V:α->Prop}:ZqT h [V7] (YB e) (fun l=>∀x∈l,V x):=⟨(none,0),[],rfl,by simp,fun _=>Sl.nil⟩
def ZnE{h:H}{α:Type}{e:JY α}{V:α->Prop}:ZqT h [.slice (some ⟨0,0,some 0⟩) 0 0] (YB e) (fun l=>∀x∈l,V x):=
 ⟨(some ⟨0,0,some 0⟩,0),[],rfl,by simp,fun _=>⟨by simp,by simp,.inr (.inl ⟨rfl,rfl⟩),.inl rfl⟩⟩
def ZGl{E:Type}{h:H}{t:J}{cs:U N}{d:DataW E}(a:AR XX.P h t cs d):ZA1 h t cs:=by
 have no:∀{t:J}{cs:U N},t≠36->t≠29->t≠33->t≠31->t≠130->t≠30->ZA1 h t cs:=fun a b c d e f=>⟨fun x=>absurd x a,fun x=>absurd x b,fun x=>absurd x c,fun x=>absurd x d,fun x=>absurd x e,fun x=>absurd x f⟩
 have u36:=Tryz.underlying36;have u29:=Tryz.underlying29;have u33:=Tryz.underlying33;have u31:=Tryz.underlying31;have ZwJ:=Tryz.underlying130;have u30:=Tryz.underlying30
 have ZmA:∀{t:J}{u:TypeDesc},XX.P.underlying t=some u->(∀e,u≠.slice e)->(∀f,u≠.struct f)->∀cs,ZA1 h t cs:=by
  intro t u hu h1 h2 cs;refine no ?_ ?_ ?_ ?_ ?_ ?_<;>(rintro rfl)
  ·rw[show XX.P.underlying 36=_ from u36]at hu;cases hu;exact h2 _ rfl
  ·rw[show XX.P.underlying 29=_ from u29]at hu;cases hu;exact h1 _ rfl
  ·rw[show XX.P.underlying 33=_ from u33]at hu;cases hu;exact h2 _ rfl
  ·rw[show XX.P.underlying 31=_ from u31]at hu;cases hu;exact h1 _ rfl
  ·rw[show XX.P.underlying 130=_ from ZwJ]at hu;cases hu;exact h2 _ rfl
  ·rw[show XX.P.underlying 30=_ from u30]at hu;cases hu;exact h1 _ rfl
 induction a with
 | bool hu=>exact ZmA hu (fun _=>by simp) (fun _=>by simp) _
 | int hu _=>exact ZmA hu (fun _=>by simp) (fun _=>by simp) _
 | string hu _=>exact ZmA hu (fun _=>by simp) (fun _=>by simp) _
 | nil hu=>
   refine⟨?_,fun _=>Zxs,?_,fun _=>Zxs,?_,fun _=>Zxs⟩
   ·rintro rfl;rw[show XX.P.underlying 36=_ from u36]at hu;cases hu
   ·rintro rfl;rw[show XX.P.underlying 33=_ from u33]at hu;cases hu
   ·rintro rfl;rw[show XX.P.underlying 130=_ from ZwJ]at hu;cases hu
 | empty hu=>
   refine⟨?_,fun _=>ZnE,?_,fun _=>ZnE,?_,fun _=>ZnE⟩
   ·rintro rfl;rw[show XX.P.underlying 36=_ from u36]at hu;cases hu
   ·rintro rfl;rw[show XX.P.underlying 33=_ from u33]at hu;cases hu
   ·rintro rfl;rw[show XX.P.underlying 130=_ from ZwJ]at hu;cases hu
 | slice hu hl hc hat hsz _ ih=>
   refine⟨?_,?_,?_,?_,?_,?_⟩
   ·rintro rfl;rw[show XX.P.underlying 36=_ from u36]at hu;cases hu
   ·rintro rfl;rw[show XX.P.underlying 29=_ from u29]at hu;cases hu;exact Zrj hl hc hat (fun x hx=>(hsz x hx).trans Kq0) fun x hx=>(ih x hx).fe rfl
   ·rintro rfl;rw[show XX.P.underlying 33=_ from u33]at hu;cases hu
   ·rintro rfl;rw[show XX.P.underlying 31=_ from u31]at hu;cases hu;exact Zrj hl hc hat (fun x hx=>(hsz x hx).trans Kq0) fun x hx=>(ih x hx).ft rfl
   ·rintro rfl;rw[show XX.P.underlying 130=_ from ZwJ]at hu;cases hu
   ·rintro rfl;rw[show XX.P.underlying 30=_ from u30]at hu;cases hu;exact Zrj hl hc hat (fun x hx=>(hsz x hx).trans Kq0) fun x hx=>(ih x hx).fc rfl
 | @struct t fs els hu hl hsz hel ih=>
   refine⟨?_,?_,?_,?_,?_,?_⟩
   ·rintro rfl;rw[show XX.P.underlying 36=_ from u36]at hu;cases hu
    match els,hl,hel,ih with
    | [x0,x1,x2,x3],_,hel,ih=>
      obtain⟨p0,y0,e0,v0,f0⟩:=ZKg.2 (hel 0 x0 _ rfl rfl);obtain⟨p1,y1,e1,v1,f1⟩:=ZO7.2 (hel 1 x1 _ rfl rfl);obtain⟨p2,y2,e2,v2,f2⟩:=Zw5.2 (hel 2 x2 _ rfl rfl);obtain⟨p3,y3,e3,v3,f3⟩:=(ih 3 x3 _ rfl rfl).fel rfl;exact⟨p3,⟨y0,y1,y2,y3⟩,by simp only[K2,GH,e0,e1,e2,e3];rfl,.mk v0 v1 v2 v3,fun wm=>Y1.2 (f3 wm)⟩
   ·rintro rfl;rw[show XX.P.underlying 29=_ from u29]at hu;cases hu
   ·rintro rfl;rw[show XX.P.underlying 33=_ from u33]at hu;cases hu
    match els,hl,hel,ih with
    | [x0,x1,x2,x3,x4],_,hel,ih=>
      obtain⟨p0,y0,e0,v0,f0⟩:=ZKh.2 (hel 0 x0 _ rfl rfl);obtain⟨p1,y1,e1,v1,f1⟩:=Zw5.2 (hel 1 x1 _ rfl rfl);obtain⟨p2,y2,e2,v2,f2⟩:=(ih 2 x2 _ rfl rfl).fel rfl;obtain⟨p3,y3,e3,v3,f3⟩:=(ih 3 x3 _ rfl rfl).fcl rfl;obtain⟨p4,y4,e4,v4,f4⟩:=(ih 4 x4 _ rfl rfl).ftl rfl;exact⟨(p2,p3,p4),⟨y0,y1,y2,y3,y4⟩,by simp only[K2,GH,e0,e1,e2,e3,e4];rfl,.mk v0 v1 v2 v3 v4,fun wm=>Xd.2 ⟨f2 wm,f3 wm,f4 wm⟩⟩
   ·rintro rfl;rw[show XX.P.underlying 31=_ from u31]at hu;cases hu
   ·rintro rfl;rw[show XX.P.underlying 130=_ from ZwJ]at hu;cases hu
    match els,hl,hel,ih with
    | [x0,x1,x2,x3,x4],_,hel,ih=>
      obtain⟨p0,y0,e0,v0,f0⟩:=ZGv.2 (hel 0 x0 _ rfl rfl);obtain⟨p1,y1,e1,v1,f1⟩:=Zw5.2 (hel 1 x1 _ rfl rfl);obtain⟨p2,y2,e2,v2,f2⟩:=ZGu.2 (hel 2 x2 _ rfl rfl);obtain⟨p3,y3,e3,v3,f3⟩:=(ih 3 x3 _ rfl rfl).fcl rfl;obtain⟨p4,y4,e4,v4,f4⟩:=(ih 4 x4 _ rfl rfl).ftl rfl;exact⟨(p2,p3,p4),⟨y0,y1,y2,y3,y4⟩,by simp only[K2,GH,e0,e1,e2,e3,e4];rfl,.mk v0 v1 v2 v3 v4,fun wm=>Z6.2 ⟨f2 wm,f3 wm,f4 wm⟩⟩
   ·rintro rfl;rw[show XX.P.underlying 30=_ from u30]at hu;cases hu
def ZKe:WA XX.P Zm ZfH 33:=⟨by kernel_rfl,fun a=>(ZGl a).ft rfl⟩
def ZEz:U J:=[33,28,9,29,30,31,36,34,3,130,127,128,136,22]
def ZwL:ZEz.all (Znb XX.P ZEz)=true:=Kq0
end
section
def Zc2:maxLen=BB:=by decide
def ZGU{wm:Nat}{h:H}{p:SlP}{x:Zi}(s:ZcJ wm h p x):ZsU x->Lo (.ex x):=by
 induction s with
 | @mk p x ps hk _ ih=>
   intro v;obtain⟨_,_,ht,hv⟩:=v;intro y hy;rw[pre_eq]at hy;rcases Kx.1 hy with rfl|hy
   ·exact⟨by rw[<-Zc2];exact ht,hk.max⟩
   ·obtain⟨k,hkk,hy⟩:=Q2.1 hy;obtain⟨z,hz,rfl⟩:=Jn.1 hkk;obtain⟨i,hi⟩:=GB hz;exact ih i z hi (hv z hz) y hy
def ZCm{wm:Nat}{h:H}{a:O Addr}{c:Nat}{l:U Zi}(s:Sl Zh wm h a c l)(v:∀x∈l,ZsU x):∀x∈l,Lo (.ex x):=fun x hx=>by
 obtain⟨ps,_,hF⟩:=Sl.iff.1 s;obtain⟨i,hi⟩:=GB hx;exact ZGU (hF i x hi) (v x hx)
def ZCl{wm:Nat}{h:H}{a:O Addr}{c:Nat}{l:U Yk}(s:Sl Yj wm h a c l)(v:∀x∈l,ZD7 x):∀m∈l,m.text.size<=BB/\m.names.length<=BB/\∀s∈m.names,s.size<=BB:=fun m hm=>by
 obtain⟨ps,_,hF⟩:=Sl.iff.1 s;obtain⟨i,hi⟩:=GB hm;have f:Sl Xb wm h (ps i).1 (ps i).2 m.names:=hF i m hi;have:=v m hm;rw[<-Zc2];exact⟨this.1,f.max,this.2⟩
def ZxR{x:Term}(h1:x.text.size<=BB)(h2:x.args.length<=BB)(h3:x.defs.length<=BB)(h4:x.kids.length<=BB)(a:∀y∈x.args,Lo (.ex y))(b:∀y∈x.defs,Lo (.cl y))(c:∀y∈x.kids,Lo (.pr y)):Lo (.pr x):=by
 intro y hy;rw[pre_eq]at hy;rcases Kx.1 hy with rfl|hy
 ·exact⟨h1,h2,h3,h4⟩
 ·obtain⟨k,hk,hy⟩:=Q2.1 hy;simp only[ZE,Q1,Jn]at hk;rcases hk with(⟨z,hz,rfl⟩|⟨z,hz,rfl⟩) | ⟨z,hz,rfl⟩
  ·exact a z hz y hy
  ·exact b z hz y hy
  ·exact c z hz y hy
def ZxS{x:Za}(h1:x.text.size<=BB)(h2:x.joins.length<=BB)(h3:x.defs.length<=BB)(h4:x.kids.length<=BB)(a:∀m∈x.joins,m.text.size<=BB/\m.names.length<=BB/\∀s∈m.names,s.size<=BB)(b:∀y∈x.defs,Lo (.cl y))(c:∀y∈x.kids,Lo (.pr y)):Lo (.cl x):=by
 intro y hy;rw[pre_eq]at hy;rcases Kx.1 hy with rfl|hy
 ·exact⟨h1,h2,h3,h4,a⟩
 ·obtain⟨k,hk,hy⟩:=Q2.1 hy;simp only[ZE,Q1,Jn]at hk;rcases hk with⟨z,hz,rfl⟩|⟨z,hz,rfl⟩
  ·exact b z hz y hy
  ·exact c z hz y hy
def ZCk{wm:Nat}{h:H}{p:TmP}{x:Term}(s:Jo wm h p x):ZfH x->Lo (.pr x):=
 Jo.rec (motive_1:=fun p x _=>ZfH x->Lo (.pr x)) (motive_2:=fun p x _=>Zdn x->Lo (.cl x))
  (fun{p x} pd pk ha hd hk _ _ i1 i2 v=>by
    obtain⟨_,ht,va,vd,vk⟩:=v
    exact ZxR (by rw[<-Zc2];exact ht) ha.max hd.max hk.max (ZCm ha va)
     (fun y hy=>by obtain⟨i,hi⟩:=GB hy;exact i1 i y hi (vd y hy)) (fun y hy=>by obtain⟨i,hi⟩:=GB hy;exact i2 i y hi (vk y hy)))
  (fun{p x} pd pk ha hd hk _ _ i1 i2 v=>by
    obtain⟨_,ht,va,vd,vk⟩:=v
    exact ZxS (by rw[<-Zc2];exact ht) ha.max hd.max hk.max (ZCl ha va)
     (fun y hy=>by obtain⟨i,hi⟩:=GB hy;exact i1 i y hi (vd y hy)) (fun y hy=>by obtain⟨i,hi⟩:=GB hy;exact i2 i y hi (vk y hy))) s
def ZtR(t:Term):Nat:=10000000000000000000+(pre (.pr t)).length
end
section
def ZxE{F:Nat}(l r:U Y)(hF:l.length<F)(hl:l.length<4000000000000000000):ZkW F l r=some (decide (l=r)):=by
 unfold ZkW;by_cases hne:l.length=r.length
 ·have:((l.length:Int) !=(r.length:Int))=false:=by rw[hne];exact Za6 _
  rw[this,Cq0]
  have:=Zb1 (body:=Zeb l r) (r1:=some false) (r2:=some true) (fun k:Nat=>(k:Int)) (fun k=>!decide (l[k]? =r[k]?)) (n:=l.length) hF
   (fun k hk next=>by
     simp only[Zeb,ZC hk,Cq1,Qq hk,Qq (show k<r.length by omega),Bq0,Zh2 (show k<4611686018427387904 by omega)];rw[Gl hk,Gl (show k<r.length by omega)];simp)
   (fun next=>by simp[Zeb])
  have e:(List.range l.length).any (fun k=>!decide (l[k]? =r[k]?))= !decide (l=r):=by
   rw[GD,GO,Bool.not_eq_true',decide_eq_false_iff_not]
   constructor
   ·rintro⟨k,_,hk⟩ e;rw[e]at hk;simp at hk
   ·intro hne2;by_cases hz:∃k,k<l.length/\l[k]?≠r[k]?
    ·obtain⟨k,hk,h⟩:=hz;exact⟨k,GV.2 hk,by simpa using h⟩
    ·refine absurd (GU fun k=>?_) hne2;by_cases hk:k<l.length
     ·exact Decidable.byContradiction fun h=>hz ⟨k,hk,h⟩
     ·rw[G9 Va,G9 Va]
  refine this.trans ?_;rw[e];cases decide (l=r)<;>rfl
 ·have:((l.length:Int) !=(r.length:Int))=true:=by simpa using fun h=>hne Va
  rw[this,Cq1,decide_eq_false fun h=>hne (congrArg _ h)]
def ZrD{F:Nat}(l:U Y)(hF:l.length<F)(hl:l.length<4000000000000000000):ZkW F l l=some true:=by
 rw[ZxE l l hF hl,decide_eq_true rfl]
def ZkI(t:Term):(Ze2 t).length<=(pre (.pr t)).length:=by
 have a:=Zay (Qd (.pr t) []) [];have b:=Zfq (.pr t) [];unfold Ze2;simp only[Gx]at a;omega
def ZvA{F:Nat}(hF:10000000000000000000<=F)(t:Term)(hs:Lo (.pr t))(hFp:(pre (.pr t)).length<=F):Zsi F t=some (bif Qy AgW (.pr t) then(Ze2 t,0) else([],2))/\ZM3 F t=some (bif Qy AgW (.pr t) then(Ze2 t,0) else([],2)):=by
 unfold Zsi ZM3;rw[Zfx hF t hs hFp,ZDJ hF t hs hFp];cases h:Qy AgW (.pr t)
 ·exact⟨rfl,rfl⟩
 ·obtain⟨a,b⟩:=J7 h;simp only[Bq0,Cq1]
  constructor
  ·show((ZvG F t).bind fun m=>bif Zf4 m then some (ZaZ m,0) else none)=_;rw[(Zd5 hF t a b).1,Bq0,Zo6 a b,Zrd];rfl
  ·show((ZDi F t).bind fun x4=>some (x4,0))=_;rw[Zy1 hF t a b];rfl
def zT:Term:=.mk 0 (⟨#[]⟩:Y) [] [] []
def ZiW{F:Nat}(hF:10000000000000000000<=F)(t:Term)(hs:Lo (.pr t))(hFp:(pre (.pr t)).length<F):
 Znp F t=some (bif Qy AgW (.pr t) then bif Qy AgW (.pr (lay t)) then(lay t,(0:Int)) else(zT,3) else(zT,2)):=by
 unfold Znp;rw[Zfx hF t hs (GI hFp),Bq0];cases h:Qy AgW (.pr t) with
 | false=>rfl
 | true=>
   have hok:=ZiC h;have hn:=ZlF hok;simp only[Cq1];rw[show((0:Int) !=0)=false from rfl,Cq0,ZDe hF hFp hok,Bq0,Zfx hF (lay t) (ZA7 hs) (KB hn (GI hFp)),Bq0];cases h2:Qy AgW (.pr (lay t)) with
   | false=>rfl
   | true=>
     obtain⟨a,b⟩:=J7 h2;simp only[Cq1];rw[show((0:Int) !=0)=false from rfl,Cq0,(Zd5 hF (lay t) a b).2,Bq0]
def Zxo:∀(n:Nat)(t:Term),SizeOf.sizeOf t<=n->okN (.pr t)->ZbO t=true:=by
 intro n
 induction n with
 | zero=>intro t hn;obtain⟨op,tx,ags,ds,ks⟩:=t;simp only[Term.mk.sizeOf_spec]at hn;omega
 | succ n ih=>
   intro t hn h;rw[ZcN];cases h3:t.op==3 with
   | false=>rfl
   | true=>
     have h2:=(ZaC h).2.2.1 h3;have:t.kids.all ZbO=true:=Kd.2 fun k hk=>ih k (by have:=K6 hk;omega) (Wm h (UL hk))
     rw[Cq1,h2,this];rfl
def Ztr{F:Nat}(hF:10000000000000000000<=F)(t:Term)(hs:Lo (.pr t))(hFp:(pre (.pr t)).length<F)(h:Qy AgW (.pr t)=true):ZvH F t=some (pts t,(0:Int)):=by
 unfold ZvH;obtain⟨a,b⟩:=J7 h;have hok:=ZiC h;have hl:=(ZaC hok).2.2.2;have e:Zng F [] t=some ([]++pts t):=ZDc (Zxo _ t Vb hok) (by unfold BS at hl;simp only[Gx];omega) hFp;rw[Zfx hF t hs (GI hFp),h,Bq0];simp only[Cq1];rw[show((0:Int) !=0)=false from rfl,Cq0,(Zd5 hF t a b).2,Bq0,e]
 rfl
def ZdF(sp:Spt):Spt:=(sp.1,sp.2.map XA)
def Zve(c:Za):(XA c).form=c.form:=by rw[Kn]
def ZrK(c:Za):(XA c).joins=c.joins:=by rw[Kn]
def Zxi:∀p:Part,match p with | .cl c=>YT (XA c)=(YT c).map ZdF|_=>True:=by
 refine QI fun p ih=>?_
 cases p with
 | ex e=>trivial
 | pr t=>trivial
 | cl c=>
   show YT (XA c)=(YT c).map ZdF;rw[JB,JB c,Zve];cases c.form==2 with
   | false=>rfl
   | true=>
     rw[Cq1,Cq1,Kn c];show(c.text,c.defs.map XA)::(c.defs.map XA).flatMap YT=ZdF (c.text,c.defs)::(c.defs.flatMap YT).map ZdF;rw[List.flatMap_map,List.map_flatMap];refine congrArg _ ?_;have:∀d∈c.defs,YT (XA d)=(YT d).map ZdF:=fun d hd=>ih (.cl d) (Zbb hd)
     generalize c.defs=l at this
     induction l with
     | nil=>rfl
     | cons d l ihl=>rw[K2,K2,this d (by simp),ihl fun x hx=>this x (Ks _ hx)]
def ZB4(c:Za):YT (XA c)=(YT c).map ZdF:=Zxi (.cl c)
def Zxh(l:U Za):(l.map XA).flatMap YT=(l.flatMap YT).map ZdF:=by
 induction l with
 | nil=>rfl
 | cons c l ih=>rw[G3,K2,K2,ZB4,ih,GC]
def ZCr(l:U Za):WT (l.map XA)=WT l:=by
 unfold WT
 induction l with
 | nil=>rfl
 | cons c l ih=>rw[G3,K2,K2,ZrK,ih]
def Zz9(l:U Za):QN (l.map XA)=QN l:=by
 unfold QN Y3;rw[Zxh];have e:(E0,l.map XA)::(l.flatMap YT).map ZdF=((E0,l)::l.flatMap YT).map ZdF:=rfl;rw[e,List.flatMap_map]
 have e2:∀m:U Spt,(m.flatMap fun sp=>(WT (ZdF sp).2).map (·.text))=m.flatMap fun sp=>(WT sp.2).map (·.text):=by
  intro m
  induction m with
  | nil=>rfl
  | cons sp m ih=>
    rw[K2,K2,ih];show(WT (sp.2.map XA)).map (·.text)++_=_;rw[ZCr]
 rw[e2,GE]
 rfl
def okQ(t:Term):Prop:=((t.op==1)=true\/(t.op==3)=true)->t.text=E0/\t.args=[]/\t.defs=[]/\((t.op==1)=true->t.kids=[])
def ZCc(p:Part):Prop:=∀q∈pre p,match q with | .pr t=>okQ t|_=>True
def ZeK{p k:Part}(h:ZCc p)(hk:k∈ZE p):ZCc k:=fun q hq=>h q (ZQ hk hq)
def ZCa{t:Term}(h:Zai t=true):okQ t:=by
 intro h13;unfold Zai at h;rw[Ba0]at h;obtain⟨h1,h2⟩:=h;rcases h13 with h3|h3
 ·have e:t.op=1:=by simpa using h3
  rw[e]at h1 h2;simp only[Int.reduceBEq,Bool.or_false,Bool.or_self,Bool.true_or,Cq1,Cq0,decide_eq_true_eq,szs,Ba0,beq_iff_eq]at h1 h2;exact⟨h2,Q4 h1.1.1,Q4 h1.1.2,fun _=>Q4 h1.2⟩
 ·have e:t.op=3:=by simpa using h3
  rw[e]at h1 h2;simp only[Int.reduceBEq,Bool.or_false,Bool.or_self,Cq1,Cq0,decide_eq_true_eq,szs,Ba0,beq_iff_eq]at h1 h2;exact⟨h2,Q4 h1.1.1,Q4 h1.1.2,fun z=>by rw[e]at z;cases z⟩
def ZCb{p:Part}(h:(pre p).all U2=true):ZCc p:=fun q hq=>by
 have:=Kd.1 h q hq;cases q with
 | pr t=>exact ZCa this
 | ex e=>trivial
 | cl c=>trivial
def ZoW(B:U Y)(e:Evt):∀l:U Term,e∈Qd (.pr (X0 l)) B↔∃x∈l,e∈Qd (.pr x) B:=by
 intro l
 induction l with
 | nil=>rw[X0,Zaq];simp[E0]
 | cons t l ih=>
   cases l with
   | nil=>rw[X0];simp
   | cons k l=>
     rw[X0,Zaq];have:bnd (.mk 3 (⟨#[]⟩:Y) [] [] [t,X0 (k::l)]) B=B:=rfl;rw[this];simp only[show((⟨#[]⟩:Y)=E0)=True from eq_true rfl,if_true,Gc,false_or,or_false,GH,List.map_nil,G5,Gk,K2,Q1,ih,Kx]
     constructor
     ·rintro(h|⟨x,h1,h2⟩)
      ·exact⟨t,.inl rfl,h⟩
      ·exact⟨x,.inr h1,h2⟩
     ·rintro⟨x,rfl|h1,h2⟩
      ·exact .inl h2
      ·exact .inr ⟨x,h1,h2⟩
def K5(t:Term)(B:U Y)(e:Evt):e∈Qd (.pr (lay t)) B↔∃x∈pts t,e∈Qd (.pr (lay x)) B:=by
 rw[UK,ZoW]
 constructor
 ·rintro⟨y,hy,h⟩;obtain⟨x,hx,rfl⟩:=Jn.1 hy;exact⟨x,hx,h⟩
 ·rintro⟨x,hx,h⟩;exact⟨_,Gj hx,h⟩
def ZzZ:∀p:Part,ZCc p->match p with | .pr t=>∀B e,e∈Qd (.pr (lay t)) B↔e∈Qd (.pr t) B | .cl c=>∀B e,e∈Qd (.cl (XA c)) B↔e∈Qd (.cl c) B | .ex _=>True:=by
 refine QI fun p ih=>?_
 intro hok
 have fm:∀{α:Type}(l:U α)(f g:α->U Evt)(h:∀x∈l,∀e,e∈f x↔e∈g x)(e:Evt),e∈l.flatMap f↔e∈l.flatMap g:=fun l f g h e=>by
  rw[Q2,Q2];exact⟨fun⟨x,hx,he⟩=>⟨x,hx,(h x hx e).1 he⟩,fun⟨x,hx,he⟩=>⟨x,hx,(h x hx e).2 he⟩⟩
 cases p with
 | ex e=>trivial
 | cl c=>
   intro B e;rw[Zee,Zee,Kn];dsimp only;rw[Q1,Q1,List.flatMap_map,List.flatMap_map,fm c.defs _ (fun d=>Qd (.cl d) B) (fun d hd=>ih (.cl d) (Zbb hd) (ZeK hok (Zbb hd)) B),fm c.kids _ (fun k=>Qd (.pr k) (B++ZJ c.joins)) (fun k hk=>ih (.pr k) (Zb5 hk) (ZeK hok (Zb5 hk)) _)]
 | pr t=>
   intro B e;have hQ:okQ t:=hok _ (Yh _);have hk:∀k∈t.kids,∀B e,e∈Qd (.pr (lay k)) B↔e∈Qd (.pr k) B:=fun k hk=>ih (.pr k) (UL hk) (ZeK hok (UL hk))
   have hd:∀d∈t.defs,∀B e,e∈Qd (.cl (XA d)) B↔e∈Qd (.cl d) B:=fun d hd=>ih (.cl d) (Zb3 hd) (ZeK hok (Zb3 hd))
   cases h1:t.op==1 with
   | true=>
     obtain⟨q1,q2,q3,q4⟩:=hQ (.inl h1);rw[K5,JZ,h1,Cq1,Zaq,q1,q2,q3,q4 h1];simp
   | false=>
     cases h3:t.op==3 with
     | true=>
       obtain⟨q1,q2,q3,_⟩:=hQ (.inr h3)
       have hb:bnd t B=B:=by
        unfold bnd;have:t.op=3:=by simpa using h3
        rw[this];rfl
       rw[K5,JZ,h1,Cq0,h3,Cq1,Zaq,q1,q2,q3,hb];simp only[if_true,GH,List.map_nil,G5,Q2]
       constructor
       ·rintro⟨x,⟨k,hkk,hx⟩,he⟩;exact⟨k,hkk,(hk k hkk B e).1 ((K5 k B e).2 ⟨x,hx,he⟩)⟩
       ·rintro⟨k,hkk,he⟩;obtain⟨x,hx,he⟩:=(K5 k B e).1 ((hk k hkk B e).2 he);exact⟨x,⟨k,hkk,hx⟩,he⟩
     | false=>
       have hs:solo t=true:=by unfold solo;rw[h1,h3];rfl
       rw[KO hs,Zaq,Zaq];have hb:bnd (KW t) B=bnd t B:=by unfold bnd KW;dsimp only;rw[Zz9]
       rw[hb];unfold KW;dsimp only;rw[Q1,Q1 (s:=(if t.text=E0 then [] else [(t.text,B)])++_),Q1 (s:=t.defs.flatMap _),Q1 (s:=(t.defs.map XA).flatMap _),List.flatMap_map,List.flatMap_map,fm t.defs _ (fun c=>Qd (.cl c) (bnd t B)) (fun d hdd=>hd d hdd _),fm t.kids _ (fun k=>Qd (.pr k) (bnd t B)) (fun k hkk=>hk k hkk _)]
def Zxc{l m:U Evt}(h:∀e,e∈l↔e∈m):Qc l []=Qc m []:=by
 obtain⟨p1,p2⟩:=UH l [] List.Pairwise.nil List.nodup_nil;obtain⟨q1,q2⟩:=UH m [] List.Pairwise.nil List.nodup_nil;refine List.Perm.eq_of_pairwise (fun a b _ _ h1 h2=>Zo1 h1 h2) p1 q1 ((List.perm_ext_iff_of_nodup p2 q2).2 fun x=>?_);rw[Zc1,Zc1]
 constructor
 ·rintro(z|⟨e,he,z⟩)
  ·exact .inl z
  ·exact .inr ⟨e,(h e).1 he,z⟩
 ·rintro(z|⟨e,he,z⟩)
  ·exact .inl z
  ·exact .inr ⟨e,(h e).2 he,z⟩
def ZvB{t:Term}(h:(pre (.pr t)).all U2=true):Ze2 (lay t)=Ze2 t:=Zxc fun e=>ZzZ (.pr t) (ZCb h) [] e
def UZ{α:Type}(a b:α):Z:=@decide (a=b) (Classical.propDecidable _)
def X8{α:Type}{a b:α}:UZ a b=true↔a=b:=by unfold UZ;exact @decide_eq_true_iff _ (Classical.propDecidable _)
def Zft{α:Type}(a:α):UZ a a=true:=X8.2 rfl
def Zgo{α:Type}{a b:α}(h:a≠b):UZ a b=false:=by
 cases e:UZ a b
 ·rfl
 ·exact absurd (X8.1 e) h
def Wd{α:Type}(l r:U α)(hn:l.length=r.length)(hl:l.length<=BS){body:Int->(Int->O Z)->O Z}{fin:O Z}
 (hb:∀(k:Nat)(h:k<l.length) nx,body (k:Int) nx=bif UZ l[k] (r[k]'Va) then nx ((k+1:Nat):Int) else some false)
 (he:∀nx,body (l.length:Int) nx=fin) {F:Nat} (hF:10000000000000000000<=F):loop F body 0=bif UZ l r then fin else some false:=by
 unfold BS at hl
 have:=Zb1 (body:=body) (r1:=some false) (r2:=fin) (fun k:Nat=>(k:Int)) (fun k=>!UZ l[k]? r[k]?) (n:=l.length) (F:=F) Va
  (fun k hk nx=>by
    rw[hb k hk nx,Gl hk,Gl (show k<r.length by omega)]
    have:UZ (some l[k]) (some (r[k]'Va))=UZ l[k] (r[k]'Va):=by
     rw[GD,X8,X8];simp
    rw[this];cases UZ l[k] (r[k]'Va)<;>rfl) he
 refine(show loop F body 0=loop F body ((0:Nat):Int) from rfl).trans (this.trans ?_);cases h:UZ l r with
 | true=>
   have e:=X8.1 h;subst e
   have:(List.range l.length).any (fun k=>!UZ l[k]? l[k]?)=false:=by
    rw[List.any_eq_false];intro k _;rw[Zft];simp
   rw[this];rfl
 | false=>
   have:(List.range l.length).any (fun k=>!UZ l[k]? r[k]?)=true:=by
    rw[GO];refine Decidable.byContradiction fun hz=>?_
    have:l=r:=GU fun k=>by
     by_cases hk:k<l.length
     ·refine X8.1 ?_;cases e:UZ l[k]? r[k]?
      ·exact absurd ⟨k,GV.2 hk,by rw[e];rfl⟩ hz
      ·rfl
     ·rw[G9 Va,G9 Va]
    rw[X8.2 this]at h;cases h
   rw[this];rfl
def okS:Part->Prop
 | .pr t=>t.args.length<=BS/\t.defs.length<=BS/\t.kids.length<=BS
 | .ex e=>e.kids.length<=BS
 | .cl c=>c.joins.length<=BS/\(∀m∈c.joins,m.names.length<=BS)/\c.defs.length<=BS/\c.kids.length<=BS
def ZiA(p:Part):Prop:=∀q∈pre p,okS q
def ZfX{p:Part}(h:ZiA p):okS p:=h p (Yh p)
def ZaB{p k:Part}(h:ZiA p)(hk:k∈ZE p):ZiA k:=fun q hq=>h q (ZQ hk hq)
def Zb2{α β:Type}{l:U α}{r:U β}(h:l.length=r.length):((l.length:Int) !=(r.length:Int))=false:=by rw[h];exact Za6 _
def ZrC{F:Nat}(hF:10000000000000000000<=F)(l r:U Y)(hl:l.length<=BS):ZkW F l r=some (UZ l r):=by
 unfold ZkW;by_cases hne:l.length=r.length
 ·rw[Zb2 hne,Cq0];refine(Wd l r hne hl (fin:=some true) (fun k hk nx=>?_) (fun nx=>?_) hF).trans ?_
  ·unfold BS at hl;simp only[Zeb,ZC hk,Cq1,Qq hk,Qq (show k<r.length by omega),Bq0,Zh2 (show k<4611686018427387904 by omega)];by_cases e:l[k]=r[k]'Va
   ·rw[X8.2 e];simp[e]
   ·rw[Zgo e];simp[e]
  ·simp[Zeb]
  ·cases UZ l r<;>rfl
 ·have:((l.length:Int) !=(r.length:Int))=true:=by simpa using fun h=>hne Va
  rw[this,Cq1,Zgo fun h=>hne (congrArg _ h)]
def ZzU{F:Nat}(hF:10000000000000000000<=F):∀n a b,ZiA (.ex a)->(pre (.ex a)).length<=n->∀Fr,n<=Fr->loop Fr (ZpT F) (a,b)=some (UZ a b):=by
 intro n
 induction n with
 | zero=>intro a b _ hp;have:=YQ (.ex a);omega
 | succ n ih=>
   intro a b hs hp Fr hf;obtain⟨m,rfl⟩:∃m,Fr=m+1:=⟨Fr-1,by omega⟩
   rw[ZH];show(bif((((a.op !=b.op)||(a.n !=b.n))||(!decide (a.text=b.text)))||((a.kids.length:Int) !=(b.kids.length:Int))) then some false else loop F (Zjo a b (loop m (ZpT F))) 0)=_;by_cases h:a.op=b.op/\a.n=b.n/\a.text=b.text/\a.kids.length=b.kids.length
   ·obtain⟨h1,h2,h3,h4⟩:=h;rw[h1,h2,h3,Zb2 h4,Za6,Za6,decide_eq_true rfl];simp only[Bool.or_self,KK,Cq0];have hl:a.kids.length<=BS:=ZfX hs;refine(Wd a.kids b.kids h4 hl (fin:=some true) (fun k hk nx=>?_) (fun nx=>?_) hF).trans ?_
    ·have hmem:Part.ex a.kids[k]∈ZE (.ex a):=Jn.2 ⟨_,GN hk,rfl⟩;have:=ih a.kids[k] (b.kids[k]'Va) (ZaB hs hmem) (by have:=ZX hmem;omega) m Va;unfold BS at hl;simp only[Zjo,ZC hk,Cq1,Qq hk,Qq (show k<b.kids.length by omega),Bq0,this,Zh2 (show k<4611686018427387904 by omega)];cases UZ a.kids[k] (b.kids[k]'Va)<;>rfl
    ·simp[Zjo]
    ·have:UZ a b=UZ a.kids b.kids:=by
      rw[GD,X8,X8];cases a;cases b;simp only[Zi.mk.injEq]at *;exact⟨fun h=>h.2.2.2,fun h=>⟨h1,h2,h3,h⟩⟩
     rw[this];cases UZ a.kids b.kids<;>rfl
   ·have hne:a≠b:=fun e=>h ⟨by rw[e],by rw[e],by rw[e],by rw[e]⟩
    have:((((a.op !=b.op)||(a.n !=b.n))||(!decide (a.text=b.text)))||((a.kids.length:Int) !=(b.kids.length:Int)))=true:=by
     refine Decidable.byContradiction fun hz=>h ?_
     simp only[Bool.not_eq_true,Bool.or_eq_false_iff,bne_eq_false_iff_eq,Bool.not_eq_false',decide_eq_true_eq]at hz;exact⟨hz.1.1.1,hz.1.1.2,hz.1.2,by omega⟩
    rw[this,Cq1,Zgo hne]
def Zp0{F:Nat}(hF:10000000000000000000<=F)(nx:Term×Term->O Z)(l r:U Term)(hl:l.length<=BS)(hnx:∀k∈l,∀y,nx (k,y)=some (UZ k y)):Zp1 F nx l r=some (UZ l r):=by
 unfold Zp1;by_cases hne:l.length=r.length
 ·rw[Zb2 hne,Cq0];refine(Wd l r hne hl (fin:=some true) (fun k hk nx=>?_) (fun nx=>?_) hF).trans ?_
  ·unfold BS at hl;simp only[Zno,ZC hk,Cq1,Qq hk,Qq (show k<r.length by omega),Bq0,hnx _ (GN hk),Zh2 (show k<4611686018427387904 by omega)];cases UZ l[k] (r[k]'Va)<;>rfl
  ·simp[Zno]
  ·cases UZ l r<;>rfl
 ·have:((l.length:Int) !=(r.length:Int))=true:=by simpa using fun h=>hne Va
  rw[this,Cq1,Zgo fun h=>hne (congrArg _ h)]
def Zzv{F:Nat}(hF:10000000000000000000<=F)(nx:Term×Term->O Z)(B:Nat)(hnx:∀k:Term,(pre (.pr k)).length<B->ZiA (.pr k)->∀y,nx (k,y)=some (UZ k y)):∀n a b,ZiA (.cl a)->(pre (.cl a)).length<=n->n<=B->∀Fr,n<=Fr->loop Fr (Zjm F nx) (a,b)=some (UZ a b):=by
 intro n
 induction n with
 | zero=>intro a b _ hp;have:=YQ (.cl a);omega
 | succ n ih=>
   intro a b hs hp hB Fr hf;obtain⟨m,rfl⟩:∃m,Fr=m+1:=⟨Fr-1,by omega⟩
   rw[ZH];show(bif((((a.form !=b.form)||(!decide (a.text=b.text)))||((a.joins.length:Int) !=(b.joins.length:Int)))||((a.defs.length:Int) !=(b.defs.length:Int))) then some false else loop F (Zjn F a b nx (loop m (Zjm F nx))) 0)=_;by_cases h:a.form=b.form/\a.text=b.text/\a.joins.length=b.joins.length/\a.defs.length=b.defs.length
   ·obtain⟨h1,h2,h3,h4⟩:=h;rw[h1,h2,Zb2 h3,Zb2 h4,Za6,decide_eq_true rfl];simp only[Bool.or_self,KK,Cq0];obtain⟨o1,o2,o3,o4⟩:=ZfX hs;have hk:Zp1 F nx a.kids b.kids=some (UZ a.kids b.kids):=Zp0 hF nx _ _ o4 fun k hk y=>hnx k (by have:=ZX (p:=.cl a) (k:=.pr k) (by simp only[ZE,Q1,Jn];exact .inr ⟨k,hk,rfl⟩);omega) (ZaB hs (by simp only[ZE,Q1,Jn];exact .inr ⟨k,hk,rfl⟩)) y
    have hd:loop F (Zgg F a b nx (loop m (Zjm F nx))) 0=bif UZ a.defs b.defs then some (UZ a.kids b.kids) else some false:=by
     refine Wd a.defs b.defs h4 o3 (fun k hk nx'=>?_) (fun nx'=>?_) hF
     ·have hmem:Part.cl a.defs[k]∈ZE (.cl a):=by simp only[ZE,Q1,Jn];exact .inl ⟨_,GN hk,rfl⟩
      have:=ih a.defs[k] (b.defs[k]'Va) (ZaB hs hmem) (by have:=ZX hmem;omega) Va m Va;unfold BS at o3;simp only[Zgg,ZC hk,Cq1,Qq hk,Qq (show k<b.defs.length by omega),Bq0,this,Zh2 (show k<4611686018427387904 by omega)];cases UZ a.defs[k] (b.defs[k]'Va)<;>rfl
     ·simp only[Zgg,Zp,Cq0,hk,Bq0]
    refine(Wd a.joins b.joins h3 o1 (fin:=loop F (Zgg F a b nx (loop m (Zjm F nx))) 0) (fun k hk nx'=>?_) (fun nx'=>?_) hF).trans ?_
    ·have hm:=ZrC hF a.joins[k].names (b.joins[k]'Va).names (o2 _ (GN hk));unfold BS at o1;simp only[Zjn,ZC hk,Cq1,Qq hk,Qq (show k<b.joins.length by omega),Bq0,Zh2 (show k<4611686018427387904 by omega)]
     have e:UZ a.joins[k] (b.joins[k]'Va)=(decide (a.joins[k].text=(b.joins[k]'Va).text)&&UZ a.joins[k].names (b.joins[k]'Va).names):=by
      rw[GD,Ba0,X8,X8,decide_eq_true_iff];generalize a.joins[k]=u;generalize b.joins[k]'Va=v;cases u;cases v;simp only[Yk.mk.injEq]
     rw[e];by_cases ht:a.joins[k].text=(b.joins[k]'Va).text
     ·rw[decide_eq_true ht];simp only[KK,Ge,gd,Cq1,Bq0,hm,Gm,Gd];cases UZ a.joins[k].names (b.joins[k]'Va).names<;>rfl
     ·rw[decide_eq_false ht];simp only[KK,Ge,gd,Cq0,Cq1,Bq0,Bool.true_or,Gq]
    ·simp only[Zjn,Zp,Cq0]
    ·rw[hd]
     have:UZ a b=(UZ a.joins b.joins&&(UZ a.defs b.defs&&UZ a.kids b.kids)):=by
      rw[GD,Ba0,Ba0,X8,X8,X8,X8];cases a;cases b;simp only[Za.mk.injEq]at *;exact⟨fun h=>h.2.2,fun h=>⟨h1,h2,h⟩⟩
     rw[this];cases UZ a.joins b.joins<;>cases UZ a.defs b.defs<;>rfl
   ·have hne:a≠b:=fun e=>h ⟨by rw[e],by rw[e],by rw[e],by rw[e]⟩
    have:((((a.form !=b.form)||(!decide (a.text=b.text)))||((a.joins.length:Int) !=(b.joins.length:Int)))||((a.defs.length:Int) !=(b.defs.length:Int)))=true:=by
     refine Decidable.byContradiction fun hz=>h ?_
     simp only[Bool.not_eq_true,Bool.or_eq_false_iff,bne_eq_false_iff_eq,Bool.not_eq_false',decide_eq_true_eq]at hz;exact⟨hz.1.1.1,hz.1.1.2,by omega,by omega⟩
    rw[this,Cq1,Zgo hne]
def ZuM{F:Nat}(hF:10000000000000000000<=F):∀n a b,ZiA (.pr a)->(pre (.pr a)).length<=n->n<=F->∀Fr,n<=Fr->loop Fr (Zg1 F) (a,b)=some (UZ a b):=by
 intro n
 induction n with
 | zero=>intro a b _ hp;have:=YQ (.pr a);omega
 | succ n ih=>
   intro a b hs hp hnF Fr hf;obtain⟨m,rfl⟩:∃m,Fr=m+1:=⟨Fr-1,by omega⟩
   rw[ZH];show(bif(((((a.op !=b.op)||(!decide (a.text=b.text)))||((a.args.length:Int) !=(b.args.length:Int)))||((a.defs.length:Int) !=(b.defs.length:Int)))||((a.kids.length:Int) !=(b.kids.length:Int))) then some false else loop F (ZjH F a b (loop m (Zg1 F))) 0)=_;by_cases h:a.op=b.op/\a.text=b.text/\a.args.length=b.args.length/\a.defs.length=b.defs.length/\a.kids.length=b.kids.length
   ·obtain⟨h1,h2,h3,h4,h5⟩:=h;rw[h1,h2,Zb2 h3,Zb2 h4,Zb2 h5,Za6,decide_eq_true rfl];simp only[Bool.or_self,KK,Cq0];obtain⟨o1,o3,o4⟩:=ZfX hs;have hnx:∀k:Term,(pre (.pr k)).length<(pre (.pr a)).length->ZiA (.pr k)->∀y,loop m (Zg1 F) (k,y)=some (UZ k y):=fun k hk ho y=>ih k y ho Va Va m Va
    have hk:Zp1 F (loop m (Zg1 F)) a.kids b.kids=some (UZ a.kids b.kids):=Zp0 hF _ _ _ o4 fun k hk y=>hnx k (ZX (p:=.pr a) (k:=.pr k) (by simp only[ZE,Q1,Jn];exact .inr ⟨k,hk,rfl⟩)) (ZaB hs (by simp only[ZE,Q1,Jn];exact .inr ⟨k,hk,rfl⟩)) y
    have hd:loop F (ZjG F a b (loop m (Zg1 F))) 0=bif UZ a.defs b.defs then some (UZ a.kids b.kids) else some false:=by
     refine Wd a.defs b.defs h4 o3 (fun k hk nx'=>?_) (fun nx'=>?_) hF
     ·have hmem:Part.cl a.defs[k]∈ZE (.pr a):=by simp only[ZE,Q1,Jn];exact .inl (.inr ⟨_,GN hk,rfl⟩)
      have hlt:=ZX hmem;have:=Zzv hF _ (pre (.pr a)).length hnx (pre (.cl a.defs[k])).length a.defs[k] (b.defs[k]'Va) (ZaB hs hmem) Vb Va F Va;unfold BS at o3;simp only[ZjG,ZH7,ZC hk,Cq1,Qq hk,Qq (show k<b.defs.length by omega),Bq0,this,Zh2 (show k<4611686018427387904 by omega)];cases UZ a.defs[k] (b.defs[k]'Va)<;>rfl
     ·simp only[ZjG,Zp,Cq0,hk,Bq0]
    refine(Wd a.args b.args h3 o1 (fin:=bif UZ a.defs b.defs then some (UZ a.kids b.kids) else some false) (fun k hk nx'=>?_) (fun nx'=>?_) hF).trans ?_
    ·have hmem:Part.ex a.args[k]∈ZE (.pr a):=by simp only[ZE,Q1,Jn];exact .inl (.inl ⟨_,GN hk,rfl⟩)
     have hlt:=ZX hmem;have:=ZzU hF (pre (.ex a.args[k])).length a.args[k] (b.args[k]'Va) (ZaB hs hmem) Vb F Va;unfold BS at o1;simp only[ZjH,ZDh,ZC hk,Cq1,Qq hk,Qq (show k<b.args.length by omega),Bq0,this,Zh2 (show k<4611686018427387904 by omega)];cases UZ a.args[k] (b.args[k]'Va)<;>rfl
    ·simp only[ZjH,Zp,Cq0,hd]
    ·have:UZ a b=(UZ a.args b.args&&(UZ a.defs b.defs&&UZ a.kids b.kids)):=by
      rw[GD,Ba0,Ba0,X8,X8,X8,X8];cases a;cases b;simp only[Term.mk.injEq]at *;exact⟨fun h=>h.2.2,fun h=>⟨h1,h2,h⟩⟩
     rw[this];cases UZ a.args b.args<;>cases UZ a.defs b.defs<;>rfl
   ·have hne:a≠b:=fun e=>h ⟨by rw[e],by rw[e],by rw[e],by rw[e],by rw[e]⟩
    have:(((((a.op !=b.op)||(!decide (a.text=b.text)))||((a.args.length:Int) !=(b.args.length:Int)))||((a.defs.length:Int) !=(b.defs.length:Int)))||((a.kids.length:Int) !=(b.kids.length:Int)))=true:=by
     refine Decidable.byContradiction fun hz=>h ?_
     simp only[Bool.not_eq_true,Bool.or_eq_false_iff,bne_eq_false_iff_eq,Bool.not_eq_false',decide_eq_true_eq]at hz;exact⟨hz.1.1.1.1,hz.1.1.1.2,by omega,by omega,by omega⟩
    rw[this,Cq1,Zgo hne]
def same_eq{F:Nat}(hF:10000000000000000000<=F)(a b:Term)(h:ZiA (.pr a))(hp:(pre (.pr a)).length<=F):ZvJ F a b=some (UZ a b):=ZuM hF _ a b h Vb hp F hp
def ZB7{p:Part}(h:U2 p=true)(hl:(ZE p).length<=BS):okS p:=by
 cases p with
 | ex e=>simpa[ZE,okS]using hl
 | pr t=>simp only[ZE,K0,JT]at hl;exact⟨by omega,by omega,by omega⟩
 | cl c=>
   simp only[ZE,K0,JT]at hl
   have hj:c.joins.length<=3/\∀m∈c.joins,m.names.length<=3:=by
    obtain⟨a,b,_⟩:=KG h;exact⟨a,b⟩
   exact⟨by unfold BS;omega,fun m hm=>by have:=hj.2 m hm;unfold BS;omega,by omega,by omega⟩
def Ztt{p:Part}(h:(pre p).all U2=true)(hl:(pre p).length<=60):ZiA p:=fun q hq=>
 ZB7 (Kd.1 h q hq) (by have:=ZaJ q;have:=XV hq;unfold BS;omega)
def ZB9:ZiA (.pr (.mk 0 (⟨#[]⟩:Y) [] [] [])):=fun q hq=>by
 rw[pre_eq]at hq;rcases Kx.1 hq with rfl|hq
 ·exact⟨Gi _,Gi _,Gi _⟩
 ·simp[ZE]at hq
def Ztw{F:Nat}(hF:10000000000000000000<=F):ZvI F (.mk 0 (⟨#[]⟩:Y) [] [] [])=some true:=by
 unfold ZvI;rw[same_eq hF _ _ ZB9 (by rw[Xe];simp[ZE];omega),Zft];rfl
def ZyZ{α:Type}(m:O α)(d:α):gd true m d=m:=rfl
def nz0:((0:Int) !=0)=false:=rfl
def Zy2{F:Nat}(hF:10000000000000000000<=F)(t:Term)(hs:Lo (.pr t))(hFp:(pre (.pr t)).length<=F)(h:Qy AgW (.pr t)=true):Zsi F t=some (Ze2 t,0):=by
 rw[(ZvA hF t hs hFp).1,h];rfl
def Zhl{F:Nat}(hF:10000000000000000000<=F)(t:Term)(hs:Lo (.pr t))(hFp:(pre (.pr t)).length<F):f8L F t=some true:=by
 unfold f8L;rw[ZiW hF t hs hFp,Bq0];cases h:Qy AgW (.pr t) with
 | false=>
   simp only[Cq0];rw[show((2:Int) !=0)=true from rfl,Cq1,show zT=Term.mk 0 (⟨#[]⟩:Y) [] [] [] from rfl,Ztw hF,Bq0,ZyZ]
   rfl
 | true=>
   cases h2:Qy AgW (.pr (lay t)) with
   | false=>
     simp only[Cq1,Cq0];rw[show((3:Int) !=0)=true from rfl,Cq1,show zT=Term.mk 0 (⟨#[]⟩:Y) [] [] [] from rfl,Ztw hF,Bq0,ZyZ]
     rfl
   | true=>
     simp only[Cq1];obtain⟨a1,a2⟩:=J7 h;obtain⟨b1,b2⟩:=J7 h2;have hok:=ZiC h;have hn:=ZlF hok;have ZL9:(pre (.pr (lay t))).length<F:=Va
     have hls:=ZA7 hs;have e1:Znp F (lay t)=some (lay t,0):=by rw[ZiW hF (lay t) hls ZL9,ZCn,h2];rfl
     have e2:=Zy2 hF t hs Va h;have e3:=Zy2 hF (lay t) hls Va h2;have e4:=Ztx hF t hs Va;have e5:=Ztx hF (lay t) hls Va;rw[h]at e4;rw[h2]at e5;have e6:=same_eq hF (lay t) (lay t) (Ztt b1 b2) Va;have hfl:(Ze2 t).length<=60:=by have:=ZkI t;omega
     have e7:=ZrD (F:=F) (Ze2 t) Va Va;have e8:=Ztr hF t hs hFp h;have e9:=Ztr hF (lay t) hls ZL9 h2;rw[Zft]at e6;rw[ZvB a1]at e3;rw[Zis]at e9;simp only[nz0,Cq0,e1,e2,e3,e4,e5,e6,e7,e8,e9,Bq0,Cq1,Bool.or_self,Ge,KK,ZyZ,Gm,JT,Za6];rw[decide_eq_false Va,Cq0];have hpl:(pts t).length<=60:=by have:=Ztm _ t Vb;omega
     refine Zf2 (S:=fun k:Nat=>(k:Int)) (n:=(pts t).length) Va (fun k hk nx=>?_) (fun nx=>?_)
     ·have hx:(pts t)[k]∈pts t:=GN hk;have hf:=ZoF h hx;have hlo:=Zxe hs hx;have hpx:(pre (.pr (pts t)[k])).length<F:=Nat.lt_of_le_of_lt (XV (ZmF _ t Vb _ hx)) hFp;have hx2:lay (pts t)[k]∈pts (lay t):=by rw[Zis];exact Gj hx
      have hf2:=ZoF h2 hx2;obtain⟨c1,c2⟩:=J7 hf2;have l1:Znp F (pts t)[k]=some (lay (pts t)[k],0):=by rw[ZiW hF _ hlo hpx,hf,hf2];rfl
      have l2:=same_eq hF (lay (pts t)[k]) (lay (pts t)[k]) (Ztt c1 c2) Va;rw[Zft]at l2;have g2:ZN ((pts t).map lay) (k:Int)=some (lay (pts t)[k]):=by rw[Qq (by rw[JT];exact hk),List.getElem_map]
      unfold ZtV;dsimp only;rw[ZC hk,Cq1,Qq hk,Bq0,l1,Bq0];dsimp only;rw[nz0,Ge,ZyZ,g2,Bq0,ZyZ,l2,Bq0,KK,Bool.or_self,Cq0,Zh2 Va]
     ·unfold ZtV;dsimp only;rw[Zp,Cq0]
      rfl
def Zhm(t:Term)(hs:Lo (.pr t)):f8L (ZtR t+1) t=some true:=Zhl (by unfold ZtR;omega) t hs (by unfold ZtR;omega)
end
section
open Go.ChangeShapes Go.WideShapes Go.ChangeAt Go.RowKit Go.ZP Go.Lf
def ZO8:WA XX.P Zm ZfH 33:=ZKe
def Zvg(H:Type)(enc:J×N->H)(W:V3){v0:N}{d0:DataW H}{p0:U MemPlace}
 (hv0:∃cs,v0=.agg cs)
 (h0:DataW.Trod enc Tryz.prog W 0 (fun _=>true) true 33 v0 d0 p0):
 Calls Tryz.prog 8 #[v0] W fun e W'=>e=.returned (.bool true)/\Below W.heap.size W W':=by
 obtain⟨g0,h0⟩:=h0;obtain⟨c0,rfl⟩:=hv0
 obtain⟨ρ,hp,els,r1,r2,r3,r4⟩:=ZDB (P:=Tryz.prog) (W:=W) [(33,(Value.agg c0).cells.toList,d0)] (fun x hx=>by
  simp only[Kx,Gc,or_false]at hx;subst hx;exact ZQR ZwL g0 33 _ d0 p0 (by decide) h0)
 match els,r3,r4 with
 | [e0],_,r4=>
   obtain⟨q0,a0⟩:=r4 0 e0 _ rfl rfl;obtain⟨m0,x0,z0,w0,F0⟩:=ZO8.2 a0;rw[z0]at q0;have L0:=ZCk (F0 hp.size) w0;replace F0:=fun wm=>Xd.1 (F0 wm)
   obtain⟨ZRN,ZRM,ZRL⟩:=F0 hp.size;have hj:Yn XX _ _:=ZMW (F:=(ZtR x0+1)) (r:=true) ZRN ZRM ZRL (Zhm x0 L0) hp.size
   have hc:=Zk4 (hj ρ #[.agg c0] W Vb r1 ⟨rfl,fun i v v' e1 e2=>by
    match i with
    | 0=>
      simp at e1 e2;subst e1 e2;exact ZBH q0
    | i+1=>simp at e1⟩)
   refine hc.mono fun e w' ⟨ρ',he,_,st⟩=>⟨?_,st.below fun i b d _ _ ho=>by rw[r2 i]at ho;cases ho⟩
   cases he with
   | ret hv=>cases hv;rfl
def ZxV:laidOutB Tryz.prog=true:=Kq0
def ZCp:ownKnob Tryz.prog.godebug=none:=Kq0
def ZrL(os:Os)(started:os.Started)(H:Type)(enc:J×N->H):
 ReturnsInHanded {} Tryz.checked os 8 .any (Rows.termLayoutsSpec.pre6 enc Tryz.prog Tryz.f8 Rows.termLayoutsRow.domain false) (Rows.termLayoutsSpec.post enc Tryz.prog Tryz.f8 false true false false):=by
 refine returnsInHanded_of_change (C:=Tryz.checked) ZCp started Kq0 Tryz.func8
  (ChangeSpec.witness6 (enc:=enc) (C:=Tryz.checked) false ⟨#[],#[.agg #[V8 0,.string ⟨#[]⟩,V7,V7,V7]],[]⟩ 8 Kq0 Kq0 Kq0 Kq0) ?_
 intro W base args ds gs before hval0 hW hcnd _;have hval:∀(j:Nat) t v,Tryz.f8.params[j]? =some t->args[j]? =some v->Value.okWide Tryz.prog W .any base t v:=hval0;have hW':=hW;obtain⟨p,q,hA0,hV,rfl,hfz,hnd⟩:=hW;have hA:DataW.TrodAll enc Tryz.prog W 0 (fun _=>true) true Tryz.f8.params.toList args.toList ds p:=hA0;rw[Tryz.params8]at hA hval;obtain⟨v0,d0,rfl,rfl,h0⟩:=trodAll_one hA;obtain⟨rfl,rfl⟩:=trodVars_none hV;clear hA0 hval0;simp only[Gk]at hW';have k0:=hval 0 33 v0 rfl rfl;have o0:∃cs,v0=.agg cs:=by obtain⟨cs,hcs,_⟩:=okWide_struct Tryz.underlying33 k0;exact⟨cs,hcs⟩
 have hlt:∀x∈p,x.block<W.heap.size:=fun x hx=>hW'.lt x hx
 refine(Zvg H enc W o0 h0).mono fun e W' ⟨he,hg⟩=>?_
 subst he
 exact⟨_,rfl,ZkK (pa:=p) (pv:=[]) hW' (fun _ _ _=>(trodAll_cons_mk (shut_bool Tryz.underlying4 _) trodAll_mk0))
  (fun sp hsp=>trodAll_mk1 (WideElems.Trod_stays ZxV Kq0 (of_decide_eq_true Kq0) h0 (fun x hx=>hg.same (hlt x (hx))) (fun x hx=>hsp x (hx)))) (fun _ _=>rfl) (by simp)
  hg (ok_one Kq0 rfl (okWide_bool_mk Tryz.underlying4 _))⟩
def ZxU:Rows.termLayoutsRow.holds Tryz.pinned (OpenSpec.ofChange Rows.termLayoutsSpec):=
 OpenClaim.holds_of_wide 8 Tryz.f8 rfl rfl rfl rfl rfl rfl rfl ⟨rfl,rfl,rfl,rfl,rfl⟩ rfl rfl rfl rfl rfl Kq0 Tryz.func8 Kq0
  (of_decide_eq_true Kq0) (by unfold Func.isWrapper;first | (rw[if_pos (by decide +kernel)];kernel_rfl) | (rw[if_neg (by decide +kernel)];exact⟨rfl,rfl⟩))
  (fun os started H enc _=>ZrL os started H enc)
theorem law_holds:Rows.TermLayoutsSaid:=ZxU
#print axioms law_holds
end
end Go.Proofs.YtbnepjakjmnadaaGreat
end
end
