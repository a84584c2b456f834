/- Part 17. -/
import GoSem.ClaimChange
import Derived.Test.YtbnepjakjmnadaaGreatFp16
set_option linter.all false
set_option maxHeartbeats 2000000
section
noncomputable section
namespace Go.ZF
variable{P:V7}{W:V9}{E:Type}
def Zfi{α β:Type}{f:α->O β}:∀{l:U α}{xs:U β},l.mapM f=some xs->xs.length=l.length/\∀(i:Nat)(a:α)(x:β),l[i]? =some a->xs[i]? =some x->f a=some x:=by
 intro l
 induction l with
 | nil=>intro xs h;simp at h;subst h;exact⟨rfl,fun i a x e=>by simp at e⟩
 | cons a l ih=>
   intro xs h;rw[List.mapM_cons]at h;cases e:f a with
   | none=>rw[e]at h;simp at h
   | some b=>
     rw[e]at h;cases e2:l.mapM f with
     | none=>rw[e2]at h;simp at h
     | some bs=>
       rw[e2]at h;simp at h;subst h;obtain⟨h1,h2⟩:=ih e2;refine⟨by simp[h1],fun i a' x q1 q2=>?_⟩;cases i with
       | zero=>simp at q1 q2;rw[<-q1,<-q2];exact e
       | succ i=>exact h2 i a' x (by simpa using q1) (by simpa using q2)
def Zby(P:V7):U Field->Nat->Nat->Z
 | [],o,n=>Nat.beq o n
 | f::fs,o,n=>Nat.beq f.offset o&&Zby P fs (o+P.cellsOf f.type) n
inductive AR(P:Program){E:Type}(h:H):TypeId->List Value->DataW E->Prop
 | bool {t:TypeId} {b:Bool} (hu:P.underlying t=some .bool):AR P h t [.bool b] (.lit (.bool b))
 | int {t:TypeId} {k:IntKind} {n:Int} (hu:P.underlying t=some (.int k)) (wf:(Lit.int k n).wf=true):AR P h t [.int k n] (.lit (.int k n))
 | string {t:TypeId} {s:ByteArray} (hu:P.underlying t=some .string) (hs:s.size<=maxLen):AR P h t [.string s] (.lit (.string s.data.toList))
 | nil {t e:TypeId} (hu:P.underlying t=some (.slice e)):AR P h t [.slice none 0 0] .nil
 | empty {t e:TypeId} (hu:P.underlying t=some (.slice e)):AR P h t [.slice (some ⟨0,0,some 0⟩) 0 0] (.slice [] [])
 | slice {t e:TypeId} {els:List (List Value×DataW E)} {rest:List (DataW E)} {i cap:Nat} (hu:P.underlying t=some (.slice e)) (hl:els.length<=cap) (hc:cap<=maxLen) (hat:h.at i=.row (els.flatMap (·.1)) false 0)
    (hsz:∀x∈els,x.1.length=P.cellsOf e) (hel:∀x∈els,AR P h e x.1 x.2):AR P h t [.slice (some ⟨i,0,none⟩) els.length (2*cap)] (.slice (els.map (·.2)) rest)
 | struct {t:TypeId} {fs:Array Field} {els:List (List Value×DataW E)} (hu:P.underlying t=some (.struct fs)) (hl:els.length=fs.toList.length) (hsz:∀(i:Nat)(x:List Value×DataW E)(f:Field),els[i]? =some x->fs.toList[i]? =some f->x.1.length=P.cellsOf f.type)
    (hel:∀(i:Nat)(x:List Value×DataW E)(f:Field),els[i]? =some x->fs.toList[i]? =some f->AR P h f.type x.1 x.2):AR P h t (els.flatMap (·.1)) (.agg (els.map (·.2)))
def AR.grow{h h':H}(g:Grow h h'){t:J}{cs:U N}{d:DataW E}(a:AR P h t cs d):AR P h' t cs d:=by
 induction a with
 | bool hu=>exact .bool hu
 | int hu wf=>exact .int hu wf
 | string hu hs=>exact .string hu hs
 | nil hu=>exact .nil hu
 | empty hu=>exact .empty hu
 | slice hu hl hc hat hsz _ ih=>exact .slice hu hl hc (by rw[g.keep _ (YH hat rfl)];exact hat) hsz ih
 | struct hu hl hsz _ ih=>exact .struct hu hl hsz ih
def Zgj(h:H):Prop:=∀i,(h.at i).own=false
def ZmT(P:V7)(W:V9)(t:J)(cs:U N)(d:DataW E):Prop:=
 ∀(ρ:Ren)(h:H),Rel ρ h W->Zgj h->∃ρ' h' acs,ρ.le ρ'/\Grow h h'/\Rel ρ' h' W/\Zgj h'/\LR ρ' acs cs/\AR P h' t acs d
def LR.mono'{ρ ρ':Ren}(hr:ρ.le ρ'){xs ys:U N}(h:LR ρ xs ys):LR ρ' xs ys:=⟨h.1,fun i v v' a b=>(h.2 i v v' a b).mono hr⟩
def Zol:∀(l:U (J×U N×DataW E)),(∀x∈l,ZmT P W x.1 x.2.1 x.2.2)->∀(ρ:Ren)(h:H),Rel ρ h W->Zgj h ->
 ∃(ρ':Ren) (h':H) (els:U (U N×DataW E)),ρ.le ρ'/\Grow h h'/\Rel ρ' h' W/\Zgj h'/\els.map (·.2)=l.map (·.2.2)/\els.length=l.length/\
   ∀(i:Nat)(x:U N×DataW E)(y:J×U N×DataW E),els[i]? =some x->l[i]? =some y->LR ρ' x.1 y.2.1/\AR P h' y.1 x.1 x.2:=by
 intro l
 induction l with
 | nil=>intro _ ρ h hr hn;exact⟨ρ,h,[],Ren.le_refl ρ,Grow.refl h,hr,hn,rfl,rfl,fun i x y e=>by simp at e⟩
 | cons a l ih=>
   intro hl ρ h hr hn;obtain⟨ρ1,h1,acs,q1,q2,q3,q4,q5,q6⟩:=hl a (by simp) ρ h hr hn;obtain⟨ρ2,h2,els,p1,p2,p3,p4,p5,p6,p7⟩:=ih (fun x hx=>hl x (by simp[hx])) ρ1 h1 q3 q4;refine⟨ρ2,h2,(acs,a.2.2)::els,Ren.le_trans q1 p1,q2.trans p2,p3,p4,by simp[p5],by simp[p6],fun i x y e1 e2=>?_⟩;cases i with
   | zero=>simp at e1 e2;subst e1 e2;exact⟨q5.mono' p1,q6.grow p2⟩
   | succ i=>exact p7 i x y (by simpa using e1) (by simpa using e2)
def flat_get{α β:Type}{f:α->U β}{sz:Nat}:∀(l:U α),(∀x∈l,(f x).length=sz)->∀i j,j<sz->(l.flatMap f)[i*sz+j]? =(l[i]?).bind fun x=>(f x)[j]?:=by
 intro l
 induction l with
 | nil=>intro _ i j _;simp
 | cons a l ih=>
   intro hl i j hj;have ha:=hl a (by simp);rw[Ks];cases i with
   | zero=>rw[GV Vg];simp
   | succ i=>
     rw[V0 (by rw[ha,V3];omega)];have:(i+1)*sz+j-(f a).length=i*sz+j:=by rw[ha,V3];omega
     rw[this,ih (fun x hx=>hl x (by simp[hx])) i j hj];simp
def ZfE{α β:Type}{f:α->U β}{sz:Nat}:∀(l:U α),(∀x∈l,(f x).length=sz)->(l.flatMap f).length=l.length*sz:=by
 intro l
 induction l with
 | nil=>intro _;simp
 | cons a l ih=>
   intro hl;rw[Ks,K2,hl a (by simp),ih fun x hx=>hl x (by simp[hx])];simp[V3];omega
def Zg9{w:V9}{a:Addr}{n:Nat}{cs:U N}(h:w.cells? 0 a n=some cs)(hn:1<=n):cs.length=n/\a.spot=none/\∃c el fz,w.heap[a.block]? =some (.cells c el fz)/\∀k,k<n->∃v,c[a.off+k]? =some v/\cs[k]? =some v:=by
 unfold World.cells? at h;rw[if_pos (Gv _)]at h;obtain⟨h1,h2⟩:=Zfi h;have hl:cs.length=n:=by simpa using h1
 have key:∀k,k<n->∃v,cs[k]? =some v/\w.cell? (a.add k)=some v:=by
  intro k hk;have hk2:k<cs.length:=Vg
  exact⟨cs[k],by simp[hk2],h2 k k cs[k] (by simp[hk]) (by simp[hk2])⟩
 obtain⟨v0,e0,c0⟩:=key 0 Vg;have ha0:a.add 0=a:=by unfold Addr.add;simp
 rw[ha0]at c0;unfold World.cell? at c0;cases hb:w.heap[a.block]? with
 | none=>rw[hb]at c0;cases c0
 | some o=>
   rw[hb]at c0;cases o with
   | cells c el fz=>
     dsimp only at c0;split at c0
     ·cases c0
     ·rename_i hsp;refine⟨hl,by simpa using hsp,c,el,fz,rfl,fun k hk=>?_⟩;obtain⟨v,e1,c1⟩:=key k hk;refine⟨v,?_,e1⟩;by_cases hk0:k=0
      ·subst hk0;rw[e0]at e1;cases e1;rw[Nat.add_zero];exact c0
      ·unfold World.cell? Addr.add at c1;rw[if_neg hk0]at c1;dsimp only at c1;rw[hb]at c1
       simpa using c1
   | _=>cases c0
def Zdu{t:J}{v:N}{d:DataW E}(hp:scalar v=true)(ha:∀h,AR P h t [v] d):ZmT P W t [v] d:=by
 intro ρ h hr hn;refine⟨ρ,h,[v],Ren.le_refl ρ,Grow.refl h,hr,hn,⟨rfl,fun i a b e1 e2=>?_⟩,ha h⟩;rw[e1]at e2;cases e2;cases i with
 | zero=>simp at e1;subst e1;exact VR.Qs hp
 | succ i=>simp at e1
def ZCP{ρ:Ren}{h:H}{b d:Nat}{cs:U N}{cc:Va N}{el:J}{fz:Nat×Nat}(r:Rel ρ h W)(hn:Zgj h)(hb:W.heap[b]? =some (.cells cc el fz))(hl:d+cs.length<=cc.size)
 (hv:∀(k:Nat)(v v':N),cs[k]? =some v->cc[d+k]? =some v'->VR ρ v v'):
 ρ.le (ρ.add h.size (b,d) (0,0))/\Grow h (h.push (.row cs false 0))/\Rel (ρ.add h.size (b,d) (0,0)) (h.push (.row cs false 0)) W/\Zgj (h.push (.row cs false 0)):=by
 have hle:=Ren.ZaH (p:=(b,d)) (l:=(0,0)) r.fresh;have hbl:b<W.heap.size:=(Jn.1 hb).1
 have hn':Zgj (h.push (.row cs false 0)):=fun i=>by
  rw[H.Qc];split
  ·rfl
  ·exact hn i
 refine⟨hle,(Grow.refl h).push _,⟨fun i b' d' e=>?_,fun i b' d' e=>?_,fun i j b' d' d2 _ _ ho=>by rw[hn' i]at ho;cases ho⟩,hn'⟩
 ·rw[H.size_push];by_cases hi:i=h.size
  ·subst hi;rw[Ren.add_same]at e;cases e;exact⟨by omega,hbl⟩
  ·rw[(Ren.Uc hi).1]at e;have:=r.dom i b' d' e;exact⟨by omega,this.2⟩
 ·by_cases hi:i=h.size
  ·subst hi;rw[Ren.add_same]at e;cases e;rw[H.Qc,if_pos rfl];exact⟨cc,el,fz,hb,(fun z=>by cases z),hl,fun k v v' e1 e2=>(hv k v v' e1 e2).mono hle⟩
  ·rw[(Ren.Uc hi).1]at e;rw[H.Qc,if_neg hi,(Ren.Uc hi).2];exact(r.obj i b' d' e).mono hle
def Zs7{a:Addr}{sz len:Nat}{css:Nat->U N}(hsz:1<=sz)(h0:∃cs,W.cells? 0 a sz=some cs)(hc:∀i,i<len->W.cells? 0 (a.add (i*sz)) sz=some (css i)):
 a.spot=none/\∃c el fz,W.heap[a.block]? =some (.cells c el fz)/\a.off+len*sz<=c.size/\∀i j,i<len->j<sz->∃v,c[a.off+(i*sz+j)]? =some v/\(css i)[j]? =some v:=by
 obtain⟨cs0,h0⟩:=h0;obtain⟨_,q1,c,el,fz,q2,q3⟩:=Zg9 h0 hsz
 have key:∀i j,i<len->j<sz->∃v,c[a.off+(i*sz+j)]? =some v/\(css i)[j]? =some v:=by
  intro i j hi hj;obtain⟨_,p1,c',el',fz',p2,p3⟩:=Zg9 (hc i hi) hsz;obtain⟨v,e1,e2⟩:=p3 j hj;have hblk:(a.add (i*sz)).block=a.block:=by unfold Addr.add;split<;>rfl
  have hoff:(a.add (i*sz)).off=a.off+i*sz:=by
   unfold Addr.add;split
   ·rename_i z;rw[z];rfl
   ·rfl
  rw[hblk,q2]at p2;cases p2;rw[hoff]at e1;exact⟨v,by rw[<-GU];exact e1,e2⟩
 refine⟨q1,c,el,fz,q2,?_,key⟩;cases len with
 | zero=>
   obtain⟨v,e,_⟩:=q3 0 Vg;have:=(Jn.1 e).1;simp at this ⊢;omega
 | succ len=>
   obtain⟨v,e,_⟩:=key len (sz-1) Vg Vg;have:=(Jn.1 e).1;rw[V3];omega
def Zti{P:V7}:∀(fs:U Field)(o n:Nat),Zby P fs o n=true->o+(fs.map fun f=>P.cellsOf f.type).sum=n/\∀i f,fs[i]? =some f->f.offset=o+((fs.take i).map fun f=>P.cellsOf f.type).sum:=by
 intro fs
 induction fs with
 | nil=>intro o n h;unfold Zby at h;exact⟨by simpa using Nb0 h,fun i f e=>by simp at e⟩
 | cons g fs ih=>
   intro o n h;unfold Zby at h;rw[Ba0]at h;obtain⟨h1,h2⟩:=ih _ _ h.2;have h0:=Nb0 h.1;refine⟨by simp;omega,fun i f e=>?_⟩;cases i with
   | zero=>simp at e;subst e;simpa using h0
   | succ i=>have:=h2 i f (by simpa using e);simp only[List.take_succ_cons,Gd,List.sum_cons];omega
def ZwE{P:V7}{cs:U N}:∀(fs:U Field)(o:Nat),Zby P fs o cs.length=true->cs.drop o=fs.flatMap fun(f:Field)=>(cs.drop f.offset).take (P.cellsOf f.type):=by
 intro fs
 induction fs with
 | nil=>intro o h;unfold Zby at h;rw[Nb0 h];simp
 | cons g fs ih=>
   intro o h;unfold Zby at h;rw[Ba0]at h;have h0:=Nb0 h.1;rw[Ks,<-ih _ h.2,h0,<-List.drop_drop,List.take_append_drop]
def LR.app{ρ:Ren}{a b c d:U N}(h:LR ρ a b)(g:LR ρ c d):LR ρ (a++c) (b++d):=by
 refine⟨by simp[h.1,g.1],fun i v v' e1 e2=>?_⟩;rcases Gk i a.length with q|q
 ·rw[GV q]at e1;rw[GV (by rw[<-h.1];exact q)]at e2;exact h.2 i v v' e1 e2
 ·rw[V0 q]at e1;rw[V0 (by rw[<-h.1];exact q),<-h.1]at e2;exact g.2 _ v v' e1 e2
def LR.flat{ρ:Ren}{α β:Type}{f:α->U N}{g:β->U N}:∀(xs:U α)(ys:U β),xs.length=ys.length->(∀(i:Nat)(x:α)(y:β),xs[i]? =some x->ys[i]? =some y->LR ρ (f x) (g y))->LR ρ (xs.flatMap f) (ys.flatMap g):=by
 intro xs
 induction xs with
 | nil=>intro ys hl _;cases ys with
   | nil=>exact⟨rfl,fun i v v' e=>by simp at e⟩
   | cons y ys=>cases hl
 | cons x xs ih=>
   intro ys hl h;cases ys with
   | nil=>cases hl
   | cons y ys=>
     rw[Ks,Ks];exact(h 0 x y rfl rfl).app (ih ys (by simpa using hl) fun i a b e1 e2=>h (i+1) a b (by simpa using e1) (by simpa using e2))
def LR.single{ρ:Ren}{v v':N}(h:VR ρ v v'):LR ρ [v] [v']:=⟨rfl,fun i a b e1 e2=>by
 cases i with
 | zero=>simp at e1 e2;subst e1 e2;exact h
 | succ i=>simp at e1⟩
end Go.ZF
end
end
