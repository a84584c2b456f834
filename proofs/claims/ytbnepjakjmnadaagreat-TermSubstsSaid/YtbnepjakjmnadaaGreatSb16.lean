/- Part 16. -/
import GoSem.ClaimChange
import Derived.Test.YtbnepjakjmnadaaGreatSb15
set_option linter.all false
set_option maxHeartbeats 2000000
section
noncomputable section
namespace Go.ZU
variable{P:V2}{W:V4}{E:Type}
def Zgq{p β:Type}{f:p->O β}:∀{l:U p}{xs:U β},l.mapM f=some xs->xs.length=l.length/\∀(i:Nat)(a:p)(x:β),l[i]? =some a->xs[i]? =some x->f a=some x:=by
 intro l;induction l with
 | nil=>intro xs h;simp at h;subst h;exact⟨rfl,fun i a x e=>by simp at e⟩
 | cons a l ih=>
   intro xs h;rw[List.mapM_cons]at h;cases e:f a with|none=>rw[e]at h;simp at h|some b=>
     rw[e]at h;cases t:l.mapM f with|none=>rw[t]at h;simp at h|some bs=>
       rw[t]at h;simp at h;subst h;have⟨h1,h2⟩:=ih t;refine⟨by simp[h1],fun i y x r q=>?_⟩;cases i with|zero=>simp at r q;rw[<-r,<-q];exact e|succ i=>exact h2 i y x (by simpa using r) (by simpa using q)
def Zb3(P:V2):U Field->Nat->Nat->Z
 | [],o,n=>Nat.beq o n
 | f::fs,o,n=>Nat.beq f.offset o&&Zb3 P fs (o+P.cellsOf f.type) n
inductive AR(P:Program){E:Type}(h:H):TypeId->List Value->DataW E->Prop
 | bool {t:TypeId} {b:Bool} (hu:P.underlying t=some .bool):AR P h t [.bool b] (.lit (.bool b))
 | int {t:TypeId} {k:IntKind} {n:Int} (hu:P.underlying t=some (.int k)) (wf:(Lit.int k n).wf=true):AR P h t [.int k n] (.lit (.int k n))
 | string {t:TypeId} {s:ByteArray} (hu:P.underlying t=some .string) (hs:s.size<=maxLen):AR P h t [.string s] (.lit (.string s.data.toList))
 | nil {t e:TypeId} (hu:P.underlying t=some (.slice e)):AR P h t [.slice none 0 0] .nil
 | empty {t e:TypeId} (hu:P.underlying t=some (.slice e)):AR P h t [.slice (some ⟨0,0,some 0⟩) 0 0] (.slice [] [])
 | slice {t e:TypeId} {els:List (List Value×DataW E)} {rest:List (DataW E)} {i cap:Nat} (hu:P.underlying t=some (.slice e)) (hl:els.length<=cap) (hc:cap<=maxLen) (hat:h.at i=.row (els.flatMap (·.1)) false 0)
    (hsz:∀x∈els,x.1.length=P.cellsOf e) (hel:∀x∈els,AR P h e x.1 x.2):AR P h t [.slice (some ⟨i,0,none⟩) els.length (2*cap)] (.slice (els.map (·.2)) rest)
 | struct {t:TypeId} {fs:Array Field} {els:List (List Value×DataW E)} (hu:P.underlying t=some (.struct fs)) (hl:els.length=fs.toList.length) (hsz:∀(i:Nat)(x:List Value×DataW E)(f:Field),els[i]? =some x->fs.toList[i]? =some f->x.1.length=P.cellsOf f.type)
    (hel:∀(i:Nat)(x:List Value×DataW E)(f:Field),els[i]? =some x->fs.toList[i]? =some f->AR P h f.type x.1 x.2):AR P h t (els.flatMap (·.1)) (.agg (els.map (·.2)))
def AR.grow{h r:H}(g:Grow h r){t:J}{cs:U N}{d:DataW E}(a:AR P h t cs d):AR P r t cs d:=by induction a with|bool hu=>exact .bool hu|int hu x=>exact .int hu x|string hu y=>exact .string hu y|nil hu=>exact .nil hu|empty hu=>exact .empty hu|slice hu q A p l _ ih=>exact .slice hu q A (by rw[g.keep _ (Y8 p rfl)];exact p) l ih|struct hu q l _ ih=>exact .struct hu q l ih
def Zhr(h:H):Prop:=∀i,(h.at i).own=false
def Zoj(P:V2)(W:V4)(t:J)(cs:U N)(d:DataW E):Prop:=
 ∀(ρ:Ren)(h:H),Rel ρ h W->Zhr h->∃l q p,ρ.le l/\Grow h q/\Rel l q W/\Zhr q/\LR l p cs/\AR P q t p d
def LR.mono'{ρ l:Ren}(p:ρ.le l){xs ys:U N}(h:LR ρ xs ys):LR l xs ys:=⟨h.1,fun i v v' a b=>(h.2 i v v' a b).mono p⟩
def ZpK:∀(l:U (J×U N×DataW E)),(∀x∈l,Zoj P W x.1 x.2.1 x.2.2)->∀(ρ:Ren)(h:H),Rel ρ h W->Zhr h ->
 ∃(q:Ren) (r:H) (p:U (U N×DataW E)),ρ.le q/\Grow h r/\Rel q r W/\Zhr r/\p.map (·.2)=l.map (·.2.2)/\p.length=l.length/\
   ∀(i:Nat)(x:U N×DataW E)(y:J×U N×DataW E),p[i]? =some x->l[i]? =some y->LR q x.1 y.2.1/\AR P r y.1 x.1 x.2:=by
 intro l;induction l with
 | nil=>intro _ ρ h t hn;exact⟨ρ,h,[],Ren.le_refl ρ,Grow.refl h,t,hn,rfl,rfl,fun i x y e=>by simp at e⟩
 | cons a l ih=>
   intro C ρ h t hn;have⟨ρ1,h1,acs,q1,q2,q3,q4,q5,q6⟩:=C a (by simp) ρ h t hn;have⟨ρ2,h2,p,p1,p2,p3,p4,p5,p6,p7⟩:=ih (fun x D=>C x (by simp[D])) ρ1 h1 q3 q4;refine⟨ρ2,h2,(acs,a.2.2)::p,Ren.le_trans q1 p1,q2.trans p2,p3,p4,by simp[p5],by simp[p6],fun i x y B A=>?_⟩;cases i with|zero=>simp at B A;subst B A;exact⟨q5.mono' p1,q6.grow p2⟩|succ i=>exact p7 i x y (by simpa using B) (by simpa using A)
def flat_get{h β:Type}{f:h->U β}{sz:Nat}:∀(l:U h),(∀x∈l,(f x).length=sz)->∀i j,j<sz->(l.flatMap f)[i*sz+j]? =(l[i]?).bind fun x=>(f x)[j]?:=by
 intro l
 induction l with|nil=>intro _ i j _;simp|cons a l ih=>
   intro p i j t;have q:=p a (by simp);rw[Kf];cases i with|zero=>rw[GT Vb];simp|succ i=>
     rw[GW (by rw[q,GZ];omega)];have:(i+1)*sz+j-(f a).length=i*sz+j:=by rw[q,GZ];omega
     rw[this,ih (fun x r=>p x (by simp[r])) i j t];simp
def ZgN{h β:Type}{f:h->U β}{sz:Nat}:∀(l:U h),(∀x∈l,(f x).length=sz)->(l.flatMap f).length=l.length*sz:=by
 intro l
 induction l with|nil=>intro _;simp|cons a l ih=>
   intro p;rw[Kf,Ks,p a (by simp),ih fun x q=>p x (by simp[q])];simp[GZ];omega
def Zil{w:V4}{a:Addr}{n:Nat}{cs:U N}(h:w.cells? 0 a n=some cs)(hn:1<=n):cs.length=n/\a.spot=none/\∃c A fz,w.heap[a.block]? =some (.cells c A fz)/\∀k,k<n->∃v,c[a.off+k]? =some v/\cs[k]? =some v:=by
 unfold World.cells? at h;rw[if_pos (GH _)]at h;have⟨h1,h2⟩:=Zgq h;have B:cs.length=n:=by simpa using h1
 have l:∀k,k<n->∃v,cs[k]? =some v/\w.cell? (a.add k)=some v:=by
  intro k t;have p:k<cs.length:=Vb;exact⟨cs[k],by simp[p],h2 k k cs[k] (by simp[t]) (by simp[p])⟩
 have⟨v0,e0,c0⟩:=l 0 Vb;have y:a.add 0=a:=by unfold Addr.add;simp
 rw[y]at c0;unfold World.cell? at c0;cases x:w.heap[a.block]? with|none=>rw[x]at c0;cases c0|some o=>
   rw[x]at c0;cases o with
   | cells c A fz=>
     dsimp only at c0;split at c0;.cases c0
     rename_i r;refine⟨B,by simpa using r,c,A,fz,rfl,fun k t=>?_⟩;have⟨v,e1,c1⟩:=l k t;refine⟨v,?_,e1⟩;by_cases q:k=0;.subst q;rw[e0]at e1;cases e1;rw[Nat.add_zero];exact c0
     unfold World.cell? Addr.add at c1;rw[if_neg q]at c1;dsimp only at c1;rw[x]at c1;simpa using c1
   | _=>cases c0
def Zev{t:J}{v:N}{d:DataW E}(r:scalar v=true)(x:∀h,AR P h t [v] d):Zoj P W t [v] d:=by intro ρ h q hn;refine⟨ρ,h,[v],Ren.le_refl ρ,Grow.refl h,q,hn,⟨rfl,fun i a b l p=>?_⟩,x h⟩;rw[l]at p;cases p;cases i with|zero=>simp at l;subst l;exact VR.QS r|succ i=>simp at l
def ZF8{ρ:Ren}{h:H}{b d:Nat}{cs:U N}{A:V5 N}{F:J}{fz:Nat×Nat}(r:Rel ρ h W)(hn:Zhr h)(E:W.heap[b]? =some (.cells A F fz))(G:d+cs.length<=A.size)
 (hv:∀(k:Nat)(v v':N),cs[k]? =some v->A[d+k]? =some v'->VR ρ v v'):
 ρ.le (ρ.add h.size (b,d) (0,0))/\Grow h (h.push (.row cs false 0))/\Rel (ρ.add h.size (b,d) (0,0)) (h.push (.row cs false 0)) W/\Zhr (h.push (.row cs false 0)):=by
 have q:=Ren.Za8 (p:=(b,d)) (l:=(0,0)) r.fresh;have C:b<W.heap.size:=(G4.1 E).1
 have x:Zhr (h.push (.row cs false 0)):=fun i=>by
  rw[H.Qu];split;.rfl
  exact hn i
 refine⟨q,(Grow.refl h).push _,⟨fun i B y e=>?_,fun i B y e=>?_,fun i j B y L _ _ D=>by rw[x i]at D;cases D⟩,x⟩
 .rw[H.size_push];by_cases t:i=h.size;.subst t;rw[Ren.add_same]at e;cases e;exact⟨by omega,C⟩
  rw[(Ren.UB t).1]at e;have:=r.dom i B y e;exact⟨by omega,this.2⟩
 by_cases t:i=h.size;.subst t;rw[Ren.add_same]at e;cases e;rw[H.Qu,if_pos rfl];exact⟨A,F,fz,E,(fun z=>by cases z),G,fun k v v' K I=>(hv k v v' K I).mono q⟩
 rw[(Ren.UB t).1]at e;rw[H.Qu,if_neg t,(Ren.UB t).2];exact(r.obj i B y e).mono q
def ZuT{a:Addr}{sz len:Nat}{h:Nat->U N}(p:1<=sz)(t:∃cs,W.cells? 0 a sz=some cs)(B:∀i,i<len->W.cells? 0 (a.add (i*sz)) sz=some (h i)):
 a.spot=none/\∃c x fz,W.heap[a.block]? =some (.cells c x fz)/\a.off+len*sz<=c.size/\∀i j,i<len->j<sz->∃v,c[a.off+(i*sz+j)]? =some v/\(h i)[j]? =some v:=by
 have⟨cs0,t⟩:=t;have⟨_,q1,c,x,fz,q2,q3⟩:=Zil t p
 have l:∀i j,i<len->j<sz->∃v,c[a.off+(i*sz+j)]? =some v/\(h i)[j]? =some v:=by
  intro i j A y;have⟨_,p1,c',el',fz',p2,p3⟩:=Zil (B i A) p;have⟨v,e1,e2⟩:=p3 j y;have r:(a.add (i*sz)).block=a.block:=by unfold Addr.add;split<;>rfl
  have q:(a.add (i*sz)).off=a.off+i*sz:=by
   unfold Addr.add;split;next z=>rw[z];rfl
   rfl
  rw[r,q2]at p2;cases p2;rw[q]at e1;exact⟨v,by rw[<-GO];exact e1,e2⟩
 refine⟨q1,c,x,fz,q2,?_,l⟩;cases len with
 | zero=>
   have⟨v,e,_⟩:=q3 0 Vb;have:=(G4.1 e).1;simp at this ⊢;omega
 | succ len=>
   have⟨v,e,_⟩:=l len (sz-1) Vb Vb;have:=(G4.1 e).1;rw[GZ];omega
def Zu0{P:V2}:∀(l:U Field)(o n:Nat),Zb3 P l o n=true->o+(l.map fun f=>P.cellsOf f.type).sum=n/\∀i f,l[i]? =some f->f.offset=o+((l.take i).map fun f=>P.cellsOf f.type).sum:=by
 intro l;induction l with
 | nil=>intro o n h;unfold Zb3 at h;exact⟨by simpa using Nb0 h,fun i f e=>by simp at e⟩
 | cons g l ih=>
   intro o n h;unfold Zb3 at h;rw[Ba0]at h;have⟨h1,h2⟩:=ih _ _ h.2;have p:=Nb0 h.1;refine⟨by simp;omega,fun i f e=>?_⟩;cases i with|zero=>simp at e;subst e;simpa using p|succ i=>have:=h2 i f (by simpa using e);simp only[List.take_succ_cons,G7,List.sum_cons];omega
def ZyM{P:V2}{cs:U N}:∀(l:U Field)(o:Nat),Zb3 P l o cs.length=true->cs.drop o=l.flatMap fun(f:Field)=>(cs.drop f.offset).take (P.cellsOf f.type):=by
 intro l
 induction l with|nil=>intro o h;unfold Zb3 at h;rw[Nb0 h];simp|cons g l ih=>
   intro o h;unfold Zb3 at h;rw[Ba0]at h;have p:=Nb0 h.1;rw[Kf,<-ih _ h.2,p,<-List.drop_drop,List.take_append_drop]
def LR.app{ρ:Ren}{a b c d:U N}(h:LR ρ a b)(g:LR ρ c d):LR ρ (a++c) (b++d):=by
 refine⟨by simp[h.1,g.1],fun i v v' p l=>?_⟩;rcases Gq i a.length with q|q
 .rw[GT q]at p;rw[GT (by rw[<-h.1];exact q)]at l;exact h.2 i v v' p l
 rw[GW q]at p;rw[GW (by rw[<-h.1];exact q),<-h.1]at l;exact g.2 _ v v' p l
def LR.flat{ρ:Ren}{p β:Type}{f:p->U N}{g:β->U N}:∀(xs:U p)(ys:U β),xs.length=ys.length->(∀(i:Nat)(x:p)(y:β),xs[i]? =some x->ys[i]? =some y->LR ρ (f x) (g y))->LR ρ (xs.flatMap f) (ys.flatMap g):=by
 intro xs;induction xs with
 | nil=>intro ys l _;cases ys with
   | nil=>exact⟨rfl,fun i v v' e=>by simp at e⟩
   | cons y ys=>cases l
 | cons x xs ih=>
   intro ys l h;cases ys with|nil=>cases l|cons y ys=>
     rw[Kf,Kf];exact(h 0 x y rfl rfl).app (ih ys (by simpa using l) fun i a b r q=>h (i+1) a b (by simpa using r) (by simpa using q))
def LR.single{ρ:Ren}{v v':N}(h:VR ρ v v'):LR ρ [v] [v']:=⟨rfl,fun i a b l p=>by
 cases i with|zero=>simp at l p;subst l p;exact h|succ i=>simp at l⟩
end Go.ZU
end
end
