/- TermCanons. -/
import Derived.Test.YtbnepjakjmnadaaGreatCn18
set_option linter.all false
set_option maxHeartbeats 2000000
section
noncomputable section
namespace Go.Proofs.YtbnepjakjmnadaaGreat
open Go.Lf
def ZcK{κ ν:Type}[DecidableEq κ](p:κ×ν)(l:U (κ×ν))(k:κ):ZP (p::l) k=if p.1=k then some p.2 else ZP l k:=by
 unfold ZP;rw[Yk];by_cases h:p.1=k
 ·rw[if_pos h,if_pos h];rfl
 ·rw[if_neg h,if_neg h];cases Yk l k<;>rfl
def Zas{κ ν:Type}[DecidableEq κ](l r:U (κ×ν))(k:κ):ZP (l++r) k=match ZP l k with|some v=>some v|none=>ZP r k:=by
 cases h:ZP l k with
 | some v=>exact ZfY h
 | none=>exact ZfZ h
def ZbR{κ ν:Type}[DecidableEq κ]{l:U (κ×ν)}{k:κ}{v:ν}(h:ZP l k=some v):(k,v)∈l:=by
 induction l with
 | nil=>cases h
 | cons p l ih=>
   rw[ZcK]at h;by_cases hk:p.1=k
   ·rw[if_pos hk]at h;cases h;subst hk;exact Gs
   ·rw[if_neg hk]at h;exact Kf _ (ih h)
def KS{κ ν:Type}[DecidableEq κ]{l:U (κ×ν)}{k:κ}:(ZP l k).isSome=true↔k∈l.map (·.1):=by
 induction l with
 | nil=>simp[ZP,Yk]
 | cons p l ih=>
   rw[ZcK];by_cases hk:p.1=k
   ·rw[if_pos hk];simp[hk]
   ·rw[if_neg hk,ih];simp[Ne.symm hk]
def zip_fst{α β:Type}:∀(l:U α)(r:U β),l.length=r.length->(l.zip r).map (·.1)=l
 | [],_,_=>rfl
 | x::l,[],h=>by cases h
 | x::l,y::r,h=>by rw[List.zip_cons_cons,G8,zip_fst l r (by simpa using h)]
def ZBd(x:Y):(pre (.ex (nam x))).length=1:=by rw[Jg];rfl
def ext_get{l to:U Y}(hl:l.length=to.length)(env:NM)(x:Y):(x∈l/\∃y∈to,ZP (ext env l to) x=some (nam y))\/(x∉l/\ZP (ext env l to) x=ZP env x):=by
 have hk:(ZP ((l.zip to).map fun p=>(p.1,nam p.2)).reverse x).isSome=true↔x∈l:=by
  rw[KS,List.map_reverse,List.mem_reverse,Gd];show x∈(l.zip to).map (·.1)↔_;rw[zip_fst l to hl]
 unfold ext;rw[Zas];cases hg:ZP ((l.zip to).map fun p=>(p.1,nam p.2)).reverse x with
 | none=>
   rw[hg]at hk;exact .inr ⟨by simpa using hk,rfl⟩
 | some v=>
   rw[hg]at hk;have:=ZbR hg;rw[List.mem_reverse,G3]at this;obtain⟨q,hq,e⟩:=this;cases e;exact .inl ⟨hk.1 rfl,q.2,(List.of_mem_zip hq).2,rfl⟩
def Zsv{c:U NM}{env:NM}{B Bn:U Y}{bad:Y->Z}(h:CE c env B Bn bad){l to:U Y}(hl:l.length=to.length){m:NM}(hm:∀x,ZP m x=ZP ((l.zip to).map fun p=>(p.1,nam p.2)).reverse x):CE (m::c) (ext env l to) (B++l) (Bn++l) (QZ bad l):=by
 refine⟨fun x=>?_,fun x e he=>?_,fun x=>?_,fun x=>?_,fun x hx=>?_⟩
 ·unfold ext Zvn;rw[Zas,hm x,h.get x];cases ZP ((l.zip to).map fun p=>(p.1,nam p.2)).reverse x<;>rfl
 ·rcases ext_get hl env x with⟨_,y,_,hy⟩|⟨_,hy⟩
  ·rw[hy]at he;cases he;rw[ZBd];omega
  ·rw[hy]at he;exact h.sz x e he
 ·rw[Q1,h.b x];rcases ext_get hl env x with⟨h1,y,_,hy⟩|⟨h1,hy⟩
  ·rw[hy];simp[h1]
  ·rw[hy];simp[h1]
 ·unfold QZ;rcases ext_get hl env x with⟨h1,y,_,hy⟩|⟨h1,hy⟩
  ·rw[hy,decide_eq_true h1]
   constructor
   ·intro z;simp at z
   ·rintro⟨e,he,h2⟩;cases he;exact absurd rfl h2
  ·rw[hy,decide_eq_false h1]
   simpa using h.bd x
 ·rw[Q1]at hx ⊢;unfold QZ;by_cases h1:x∈l
  ·exact⟨.inr h1,by rw[decide_eq_true h1];simp⟩
  ·obtain⟨z1,z2⟩:=h.nb x (hx.resolve_right h1);exact⟨.inl z1,by rw[z2];rfl⟩
def Zgt(l:U Y)(x:Y):ZP (bindM l []) x=ZP ((l.zip l).map fun p=>(p.1,nam p.2)).reverse x:=by
 rw[Zgs]
 have:∀l:U Y,(l.zip l).map (fun p=>(p.1,nam p.2))=l.map fun y=>(y,nam y):=by
  intro l
  induction l with
  | nil=>rfl
  | cons y l ih=>rw[List.zip_cons_cons,G8,ih];rfl
 rw[this];by_cases hx:x∈l
 ·rw[if_pos hx]
  have:(ZP (l.map fun y=>(y,nam y)).reverse x).isSome=true:=by
   rw[KS,List.map_reverse,List.mem_reverse,Gd];exact G3.2 ⟨x,hx,rfl⟩
  cases hg:ZP (l.map fun y=>(y,nam y)).reverse x with
  | none=>rw[hg]at this;cases this
  | some v=>
    have:=ZbR hg;rw[List.mem_reverse,G3]at this;obtain⟨q,_,e⟩:=this;cases e;rfl
 ·rw[if_neg hx];cases hg:ZP (l.map fun y=>(y,nam y)).reverse x with
  | none=>rfl
  | some v=>
    have:=ZbR hg;rw[List.mem_reverse,G3]at this;obtain⟨q,hq,e⟩:=this;cases e;exact absurd hq hx
def bdI{σ:Type}:BF σ:=fun s _ l _=>(s,l)
def ZMJ{F:Nat}(hF:10000000000000000000<=F)(rl:Za->U Y->O MB)(fl:Term->O MB):BE F (fun _ _=>True) (Za9 F) rl fl bdI where
 mono:=fun _ _ _ _=>trivial
 t:=fun tk c env B Bn bad t k hc _ _ _ _ _ hl _=>⟨bindM (Qw t.defs) [],by unfold Za9;rw[bind_eq hF _ V6];rfl,Zsv hc rfl (Zgt _),trivial⟩
 r:=fun tk c env B Bn bad p k hc _ _ _ _ _ hl _=>⟨bindM (ZB p.joins) [],by unfold Za9;rw[bind_eq hF _ V6];rfl,Zsv hc rfl (Zgt _),trivial⟩
def IdE(env:NM):Prop:=∀x e,ZP env x=some e->e=nam x
def ZfB{env:NM}(h:IdE env)(l:U Y):IdE (ext env l l):=fun x e he=>by
 unfold ext at he;rw[Zas,<-Zgt,Zgs]at he;by_cases hx:x∈l
 ·rw[if_pos hx]at he;cases he;rfl
 ·rw[if_neg hx]at he;simp only[ZP,Yk,Option.map_none]at he;exact h x e he
def Zub:IdE []:=fun x e he=>by cases he
def ZdE{env:NM}(h:IdE env)(x:Y):JG env x=x:=by
 unfold JG;cases hg:ZP env x with
 | none=>rfl
 | some e=>rw[h x e hg];rfl
def Zl1{env:NM}(h:IdE env)(x:Y):tx0 env x=x:=by
 unfold tx0;split
 ·rename_i e;exact e.symm
 ·exact ZdE h x
def Zzh{env:NM}(h:IdE env):∀n e,(pre (.ex e)).all Uq=true->(pre (.ex e)).length<=n->Ka env e=e:=by
 intro n
 induction n with
 | zero=>intro e _ hn;have:=Xd (.ex e);omega
 | succ n ih=>
   intro e hs hn;have hsh:Wl e=true:=Ks.1 hs _ (Xq _);rw[ZjG];cases h2:e.op==2
   ·have:e.kids.map (Ka env)=e.kids:=by
     conv=>rhs;rw[<-List.map_id e.kids]
     exact Gt fun x hx=>ih x (by rw[Ks]at hs ⊢;exact fun y hy=>hs y (Xk (XC hx) hy)) (by have:=Yb (XC hx);omega)
    rw[this];show Zg.mk e.op e.n e.text e.kids=e;cases e;rfl
   ·cases hg:ZP env e.text with
    | none=>rfl
    | some y=>
      have h2':e.op=2:=by simpa using h2
      have hk:e.kids=[]/\e.n=0:=by
       unfold Wl at hsh;rw[h2']at hsh;simp only[Int.reduceBEq,Cq1,Cq0,Ba0,beq_iff_eq]at hsh;exact⟨G9 hsh.2,hsh.1.2⟩
      rw[h _ _ hg];obtain⟨op,nn,tx,ks⟩:=e;simp only at h2' hk;obtain⟨rfl,rfl⟩:=hk;subst h2';rfl
def ZED(t:Term):Term.mk t.op t.text t.args t.defs t.kids=t:=by cases t;rfl
def ZEE(t:Za):Za.mk t.form t.text t.joins t.defs t.kids=t:=by cases t;rfl
def ZPL{σ:Type}:∀n,(∀t,(pre (.pr t)).all Uq=true->(pre (.pr t)).length<=n->∀(s:σ) env,IdE env->Wt bdI s env t=(s,t))/\(∀c,(pre (.cl c)).all Uq=true->(pre (.cl c)).length<=n->∀(s:σ) env,IdE env->Wc bdI s env c=(s,c)):=by
 intro n
 induction n with
 | zero=>exact⟨fun t _ hn=>by have:=Xd (.pr t);omega,fun t _ hn=>by have:=Xd (.cl t);omega⟩
 | succ n ih=>
   have hts:∀(l:U Term),(∀x∈l,(pre (.pr x)).all Uq=true/\(pre (.pr x)).length<=n)->∀(s:σ) env,IdE env->Wts bdI s env l=(s,l):=by
    intro l
    induction l with
    | nil=>intro _ s env _;rw[Zc4]
    | cons x l ihl=>
      intro h s env he;have hx:=h x (by simp);rw[ZaJ,ih.1 x hx.1 hx.2 s env he,ihl (fun y hy=>h y (Kf _ hy)) s env he]
   have hcs:∀(l:U Za),(∀x∈l,(pre (.cl x)).all Uq=true/\(pre (.cl x)).length<=n)->∀(s:σ) env,IdE env->Wcs bdI s env l=(s,l):=by
    intro l
    induction l with
    | nil=>intro _ s env _;rw[Zfw]
    | cons x l ihl=>
      intro h s env he;have hx:=h x (by simp);rw[Zfx,ih.2 x hx.1 hx.2 s env he,ihl (fun y hy=>h y (Kf _ hy)) s env he]
   have sub:∀{p k:Part},(pre p).all Uq=true->(pre p).length<=n+1->k∈ZM p->(pre k).all Uq=true/\(pre k).length<=n:=fun hs hn hk=>⟨by rw[Ks]at hs ⊢;exact fun y hy=>hs y (Xk hk hy),by have:=Yb hk;omega⟩
   constructor
   ·intro t hs hn s env he
    have ha:t.args.map (Ka env)=t.args:=by
     conv=>rhs;rw[<-List.map_id t.args]
     exact Gt fun x hx=>Zzh he n x (sub hs hn (Ju hx)).1 (sub hs hn (Ju hx)).2
    by_cases h4:t.op=4
    ·have hin:inT bdI s env t=(s,ext env (Qw t.defs) (Qw t.defs)):=by unfold inT;rw[h4];rfl
     rw[Znz h4,hin];dsimp only;rw[hcs t.defs (fun x hx=>sub hs hn (Qq hx)) s _ (ZfB he _)];dsimp only;rw[hts t.kids (fun x hx=>sub hs hn (Xr hx)) s _ (ZfB he _),ha,Zl1 he,ZED]
    ·have hd0:t.defs=[]:=ZfO (Ks.1 hs _ (Xq (.pr t))) h4;rw[ZhO h4,hts t.kids (fun x hx=>sub hs hn (Xr hx)) s env he,ha,Zl1 he];dsimp only;rw[<-hd0,ZED]
   ·intro c hs hn s env he;have hC:UD c=true:=Ks.1 hs _ (Xq _);by_cases h2:c.form=2
    ·rw[Zfy h2,hcs c.defs (fun x hx=>sub hs hn (XO hx)) s env he];dsimp only;rw[hts c.kids (fun x hx=>sub hs hn (Y3 hx)) s env he,ZdE he]
     have hj0:c.joins=[]:=by
      rcases(ZaU hC).2 with h|h
      ·omega
      ·exact h.2
     dsimp only;rw[<-hj0,ZEE]
    ·have hf:c.form=1:=by
      rcases(ZaU hC).2 with h|h
      ·exact h
      ·exact absurd h.1 h2
     obtain⟨ht,hd⟩:=ZfS hC hf;have hin:inC bdI s env c=(s,ext env (ZB c.joins) (ZB c.joins)):=by unfold inC;rw[hf];rfl
     have hj:c.joins.map (Us env (ext env (ZB c.joins) (ZB c.joins)))=c.joins:=by
      conv=>rhs;rw[<-List.map_id c.joins]
      refine Gt fun m hm=>?_
      unfold Us;rw[ZdE he]
      have:m.names.map (JG (ext env (ZB c.joins) (ZB c.joins)))=m.names:=by
       conv=>rhs;rw[<-List.map_id m.names]
       exact Gt fun x _=>ZdE (ZfB he _) x
      rw[this];rfl
     rw[ZhP h2,hin];dsimp only;rw[hts c.kids (fun x hx=>sub hs hn (Y3 hx)) s _ (ZfB he _),hj];dsimp only;rw[<-ht,<-hd,ZEE]
def ZAo:CE [[]] [] [] [] (fun _=>false):=⟨fun x=>rfl,fun x e he=>(by cases he),fun x=>by simp[ZP,Yk],fun x=>⟨fun z=>(by cases z),fun⟨e,he,_⟩=>(by cases he)⟩,fun x hx=>(by cases hx)⟩
def ZtZ:∀n,(∀t,(pre (.pr t)).length<=n->∀bad,(∀x,bad x=false)->bT bad t=false)/\(∀c,(pre (.cl c)).length<=n->∀bad,(∀x,bad x=false)->bC bad c=false):=by
 intro n
 induction n with
 | zero=>exact⟨fun t hn=>by have:=Xd (.pr t);omega,fun t hn=>by have:=Xd (.cl t);omega⟩
 | succ n ih=>
   have hts:∀(l:U Term),(∀x∈l,(pre (.pr x)).length<=n)->∀bad,(∀x,bad x=false)->bTs bad l=false:=by
    intro l
    induction l with
    | nil=>intro _ bad _;rw[ZhK]
    | cons x l ihl=>intro h bad hb;rw[Zfl,ih.1 x (h x (by simp)) bad hb,ihl (fun y hy=>h y (Kf _ hy)) bad hb];rfl
   have hcs:∀(l:U Za),(∀x∈l,(pre (.cl x)).length<=n)->∀bad,(∀x,bad x=false)->bCs bad l=false:=by
    intro l
    induction l with
    | nil=>intro _ bad _;rw[Znl]
    | cons x l ihl=>intro h bad hb;rw[Zp0,ih.2 x (h x (by simp)) bad hb,ihl (fun y hy=>h y (Kf _ hy)) bad hb];rfl
   have hless:∀(bad:Y->Z) l,(∀x,bad x=false)->∀x,QZ bad l x=false:=fun bad l h x=>by unfold QZ;rw[h x];rfl
   constructor
   ·intro t hn bad hb;rw[ZEI,hb,hcs t.defs (fun x hx=>by have:=Yb (Qq hx);omega) _ (hless bad _ hb),hts t.kids (fun x hx=>by have:=Yb (Xr hx);omega) _ (hless bad _ hb),hts t.kids (fun x hx=>by have:=Yb (Xr hx);omega) _ hb];simp
   ·intro c hn bad hb;rw[ZzG,hcs c.defs (fun x hx=>by have:=Yb (XO hx);omega) _ hb,hts c.kids (fun x hx=>by have:=Yb (Y3 hx);omega) _ hb,hts c.kids (fun x hx=>by have:=Yb (Y3 hx);omega) _ (hless bad _ hb)];simp
def Zi9{F:Nat}(hF:10000000000000000000<=F)(t:Term)(hs:(pre (.pr t)).all Uq=true)(hn:(pre (.pr t)).length<=60):ZrD F t=some (Y8 (JY (.pr t) []) [])/\ZLy F t=some t:=by
 have h:=(Zwl hF (ZMJ hF (fun _ _=>none) (fun _=>none)) 60 t hs hn V7 F V6 [] [] [[]] [] [] [] _ 0 ZAo (by simp only[KK,GT];omega) (by simp;omega) trivial).1;rw[(ZPL 60).1 t hs hn [] [] Zub,(ZtZ 60).1 t hn _ fun _=>rfl]at h;have h':ZjE F (Za9 F) (fun _ _=>none) (fun _=>none) (([],[]),[[]],t)=_:=h;unfold ZrD ZLy;rw[h'];exact⟨rfl,rfl⟩
def Zlf{ν:Type}(m:U (Y×ν))(x:Y)(v:ν):(YT m x v).map (·.1)=if x∈m.map (·.1) then m.map (·.1) else m.map (·.1)++[x]:=by
 have h:=KS (l:=m) (k:=x);unfold ZP at h;unfold YT;cases e:Yk m x with
 | none=>
   rw[e]at h;rw[if_neg (by rw[<-h];simp)];simp
 | some q=>
   rw[e]at h;rw[if_pos (h.1 rfl)];have hq:=ZaW e;apply GF;intro i;simp only[GC,List.getElem?_modify];by_cases hi:q.1=i
   ·subst hi;rw[hq];show Option.map _ (some (if q.1=q.1 then(x,v) else(x,q.2)))=_;rw[if_pos rfl];rfl
   ·cases m[i]?<;>simp[hi]
def ZuU(fr:MB)(e:Evt):(note fr e.2 e.1).map (·.1)=if e.1∈e.2\/e.1∈fr.map (·.1) then fr.map (·.1) else fr.map (·.1)++[e.1]:=by
 unfold note;by_cases h1:e.1∈e.2
 ·rw[if_pos h1,if_pos (.inl h1)]
 ·rw[if_neg h1,Zlf];by_cases h2:e.1∈fr.map (·.1)
  ·rw[if_pos h2,if_pos (.inr h2)]
  ·rw[if_neg h2,if_neg (by simp[h1,h2])]
def U2:∀(l:U Evt)(fr:MB),(fr.map (·.1)).Nodup->((Y8 l fr).map (·.1)).Nodup/\(∀x,x∈(Y8 l fr).map (·.1)↔x∈fr.map (·.1)\/∃e∈l,x=e.1/\e.1∉e.2)/\(Y8 l fr).length<=fr.length+l.length
 | [],fr,h=>⟨h,fun x=>by simp[Y8],K1 _⟩
 | e::l,fr,h=>by
   have hk:=ZuU fr e
   have hn:((note fr e.2 e.1).map (·.1)).Nodup:=by
    rw[hk];by_cases hm:e.1∈e.2\/e.1∈fr.map (·.1)
    ·rw[if_pos hm];exact h
    ·rw[if_neg hm,List.nodup_append];refine⟨h,by simp,fun a ha b hb=>?_⟩;rw[G6.1 hb];exact fun e=>hm (.inr (e▸ha))
   obtain⟨i1,i2,i3⟩:=U2 l (note fr e.2 e.1) hn;refine⟨i1,fun x=>(i2 x).trans ?_,?_⟩
   ·have hx:x∈(note fr e.2 e.1).map (·.1)↔x∈fr.map (·.1)\/(x=e.1/\e.1∉e.2):=by
     rw[hk];by_cases hm:e.1∈e.2\/e.1∈fr.map (·.1)
     ·rw[if_pos hm];refine⟨.inl,fun h=>h.elim id fun h=>?_⟩;rcases hm with hm|hm
      ·exact absurd hm h.2
      ·exact h.1▸hm
     ·rw[if_neg hm,Q1,G6];exact⟨fun h=>h.imp id fun e=>⟨e,fun z=>hm (.inl z)⟩,fun h=>h.imp id fun e=>e.1⟩
    rw[hx]
    constructor
    ·rintro((h|h) | ⟨e',he,h⟩)
     ·exact .inl h
     ·exact .inr ⟨e,by simp,h⟩
     ·exact .inr ⟨e',by simp[he],h⟩
    ·rintro(h|⟨e',he,h⟩)
     ·exact .inl (.inl h)
     ·rcases Kx.1 he with rfl|he
      ·exact .inl (.inr h)
      ·exact .inr ⟨e',he,h⟩
   ·have:(note fr e.2 e.1).length<=fr.length+1:=by
     have:=congrArg List.length hk;rw[Gc]at this;rw[this];split<;>simp
    show(Y8 l (note fr e.2 e.1)).length<=_;simp only[KK];omega
def Zn1(a b:Y):ZkQ a b=decide (a.data.toList<b.data.toList):=Go.Proofs.bytesLess_eq _ _
def leS(a b:Y):Prop:=a.data.toList<=b.data.toList
def Zxe{a b:Y}(h1:leS a b)(h2:leS b a):a=b:=by
 have:=List.le_antisymm h1 h2;cases a;cases b;exact congrArg _ (GO.1 this)
def ZgX{s:Y}:∀{l:U Y},l.Pairwise leS->(Zf3 l s).Pairwise leS
 | [],_=>by simp[Zf3]
 | x::l,h=>by
   unfold Zf3;rw[List.pairwise_cons]at h;cases hx:ZkQ x s
   ·rw[Zn1,decide_eq_false_iff_not]at hx;have hsx:leS s x:=List.not_lt.1 hx;rw[Cq0,List.pairwise_cons];refine⟨fun y hy=>?_,List.pairwise_cons.2 h⟩;rcases Kx.1 hy with rfl|hy
    ·exact hsx
    ·exact List.le_trans hsx (h.1 y hy)
   ·rw[Zn1,decide_eq_true_eq]at hx;rw[Cq1,List.pairwise_cons];refine⟨fun y hy=>?_,ZgX h.2⟩;rcases ZiF.1 hy with rfl|hy
    ·exact List.le_of_lt hx
    ·exact h.1 y hy
def ZiP{s:Y}:∀{l:U Y},l.Nodup->s∉l->(Zf3 l s).Nodup
 | [],_,_=>by simp[Zf3]
 | x::l,h,hs=>by
   unfold Zf3;rw[GD]at h;rw[Kx,not_or]at hs;cases ZkQ x s
   ·rw[Cq0,GD,Kx,not_or,GD];exact⟨hs,h⟩
   ·rw[Cq1,GD];exact⟨fun hm=>(ZiF.1 hm).elim (fun e=>hs.1 e.symm) h.1,ZiP h.2 hs.2⟩
def ZaR:∀(l:U Evt)(o:U Y),o.Pairwise leS->o.Nodup->(Zbl l o).Pairwise leS/\(Zbl l o).Nodup
 | [],o,h1,h2=>⟨h1,h2⟩
 | e::l,o,h1,h2=>by
   show(Zbl l (Zih o e.2 e.1)).Pairwise leS/\(Zbl l (Zih o e.2 e.1)).Nodup;unfold Zih;by_cases h:e.1∈e.2\/e.1∈o
   ·rw[if_pos h];exact ZaR l o h1 h2
   ·rw[if_neg h];exact ZaR l _ (ZgX h1) (ZiP h2 fun z=>h (.inr z))
def Zn3(m:MB):(Zak m).Pairwise leS:=by
 unfold Zak Zhh;refine List.Pairwise.map _ (fun a b h=>?_) (List.pairwise_mergeSort Zld Zle _)
 simpa[leS]using h
def Zuy(m:MB):(Zak m).Perm (m.map (·.1)):=by
 unfold Zak Zhh;refine((List.mergeSort_perm _ _).map _).trans ?_;unfold kbs;rw[Gd];refine List.Perm.of_eq (Gt fun p _=>?_)
 rfl
def ZdF(l:U Evt):Zak (Y8 l [])=Zbl l []:=by
 obtain⟨k1,k2,_⟩:=U2 l [] List.nodup_nil;obtain⟨p1,p2⟩:=ZaR l [] List.Pairwise.nil List.nodup_nil;refine List.Perm.eq_of_pairwise (fun a b _ _ h1 h2=>Zxe h1 h2) (Zn3 _) p1 ?_;refine(Zuy _).trans ((List.perm_ext_iff_of_nodup k1 p2).2 fun x=>?_);rw[k2,Zla];simp
def ZiA{s:Y}(h:Xl s=true):s.size<=8:=by
 unfold Xl at h;simp only[Ba0,decide_eq_true_eq]at h;exact h.1.1.2
def Zvg:∀n p,(pre p).length<=n->(pre p).all Uq=true->∀B,∀e∈JY p B,Xl e.1=true:=by
 intro n
 induction n with
 | zero=>intro p hp;have:=Xd p;omega
 | succ n ih=>
   intro p hn hs B e he;have sub:∀{k:Part},k∈ZM p->∀B,∀e∈JY k B,Xl e.1=true:=fun hk=>ih _ (by have:=Yb hk;omega) (by rw[Ks]at hs ⊢;exact fun y hy=>hs y (Xk hk hy))
   have ZKt:∀x,(pre (.ex x)).all Uq=true->∀s∈nmE x,Xl s=true:=fun x hx s hm=>by
    unfold nmE at hm;obtain⟨y,hy,hm⟩:=Q3.1 hm;cases y with
    | ex y=>
      have hy2:Wl y=true:=Ks.1 hx _ hy;cases h2:y.op==2<;>simp only[nm1,h2,Cq1,Cq0]at hm
      ·cases hm
      ·rw[G6.1 hm];have h2':y.op=2:=by simpa using h2
       unfold Wl at hy2;rw[h2']at hy2;simp only[Int.reduceBEq,Cq1,Cq0,Ba0]at hy2;exact hy2.1.1
    | pr y=>cases hm
    | cl y=>cases hm
   cases p with
   | ex x=>
     rw[JY]at he;obtain⟨s,hm,rfl⟩:=G3.1 he;exact ZKt x hs s hm
   | pr t=>
     rw[Zm1]at he;rcases Q1.1 he with he|he
     ·rcases Q1.1 he with he|he
      ·by_cases ht:t.text=E0
       ·rw[if_pos ht]at he;cases he
       ·rw[if_neg ht]at he;rw[G6.1 he];have hT:K8 t=true:=Ks.1 hs _ (Xq _);unfold K8 at hT;rw[Ba0]at hT;have h2:=hT.2;cases h:((t.op==2)||(t.op==6))||(t.op==8)<;>rw[h]at h2<;>simp only[Cq1,Cq0,decide_eq_true_eq]at h2
        ·exact absurd h2 ht
        ·exact h2
      ·obtain⟨s,hm,rfl⟩:=G3.1 he;obtain⟨a,ha,hm⟩:=Q3.1 hm;exact ZKt a (by rw[Ks]at hs ⊢;exact fun y hy=>hs y (Xk (Ju ha) hy)) s hm
     ·rcases Q1.1 he with he|he
      ·obtain⟨d,hd,he⟩:=Q3.1 he;exact sub (Qq hd) _ e he
      ·obtain⟨d,hd,he⟩:=Q3.1 he;exact sub (Xr hd) _ e he
   | cl c=>
     rw[ZjK]at he;rcases Q1.1 he with he|he
     ·obtain⟨d,hd,he⟩:=Q3.1 he;exact sub (XO hd) _ e he
     ·obtain⟨d,hd,he⟩:=Q3.1 he;exact sub (Y3 hd) _ e he
def ZoG{t:Term}(hs:(pre (.pr t)).all Uq=true)(hn:(pre (.pr t)).length<=60):Zf2 (Y8 (JY (.pr t) []) [])=true:=by
 obtain⟨k1,k2,k3⟩:=U2 (JY (.pr t) []) [] List.nodup_nil;have hl:=Zm2 (.pr t) [];unfold Zf2;rw[Ba0,Ba0,decide_eq_true_eq,decide_eq_true_eq,Ks];refine⟨⟨k1,fun p hp=>?_⟩,by simp only[GT]at k3;omega⟩;have:=(k2 p.1).1 (Gp hp);simp only[List.map_nil,Gi,false_or]at this;obtain⟨e,he,h1,_⟩:=this;have:=ZiA (Zvg _ _ V7 hs [] e he);rw[<-h1]at this;exact decide_eq_true V6
def Zdp(t:Term):U Y:=Zbl (JY (.pr t) []) []
end Go.Proofs.YtbnepjakjmnadaaGreat
end
end
section
noncomputable section
namespace Go.ZK
section
variable{P:GW}{W:GY}{E:Type}
def ZmK(P:GW)(T:U J)(t:J):Z:=
 match P.underlying t with
 | some .bool=>true
 | some (.int _)=>true
 | some .string=>true
 | some (.slice e)=>T.contains e&&Nat.ble 1 (P.cellsOf e)
 | some (.struct fs)=>fs.toList.all (fun x=>T.contains x.type)&&Za8 P fs.toList 0 (P.cellsOf t)
 | _=>false
def ZO7{enc:J×N->E}{T:U J}(hT:T.all (ZmK P T)=true):∀(fuel:Nat)(t:J)(cs:U N)(d:DataW E)(ps:U MemPlace),T.contains t=true->DataW.trod enc P W 0 (fun _=>true) true fuel t cs=some (d,ps)->ZlR P W t cs d:=by
 intro fuel
 induction fuel with
 | zero=>intro t cs d ps _ h;unfold DataW.trod at h;cases h
 | succ fuel ih=>
   intro t cs d ps hg h;have hg:ZmK P T t=true:=(Ks.1 hT) t (Gv.1 hg);unfold ZmK at hg;unfold DataW.trod at h;cases hu:P.underlying t with
   | none=>rw[hu]at hg;cases hg
   | some u=>
     rw[hu]at hg h;cases u with
     | bool=>
       split at h<;>try (first | (cases h;done) | (have hx:=‹some TypeDesc.bool=some _›;cases hx;done))
       cases h;exact ZcY rfl fun h=>.bool hu
     | int k=>
       split at h<;>try (first | (cases h;done) | (have hx:=‹some (TypeDesc.int k)=some _›;cases hx;done))
       rename_i hk;cases hk;split at h
       ·rename_i hw;cases h;obtain⟨rfl,hw⟩:=hw;exact ZcY rfl fun h=>.int hu hw
       ·cases h
     | string=>
       split at h<;>try (first | (cases h;done) | (have hx:=‹some TypeDesc.string=some _›;cases hx;done))
       split at h
       ·rename_i hw;cases h;exact ZcY rfl fun h=>.string hu hw
       ·cases h
     | slice e=>
       rw[Ba0]at hg;have hsz:=Nl0 hg.2;split at h<;>try (first | (cases h;done) | (have hx:=‹some (TypeDesc.slice e)=some _›;cases hx;done))
       ·cases h;exact ZcY rfl fun h=>.nil hu
       ·rename_i e' a len cap he;cases he;dsimp only at h;split at h
        ·rename_i hc;obtain⟨-,hlc,hcm⟩:=hc;rw[Option.bind_eq_some_iff]at h;obtain⟨elems,e1,h⟩:=h;rw[if_pos rfl,Option.map_eq_some_iff]at h;obtain⟨rest,e2,h⟩:=h;cases h;obtain⟨l1,g1⟩:=ZeB e1;obtain⟨l2,g2⟩:=ZeB e2;rw[List.length_range]at l1 l2;by_cases hcap:cap=0
         ·subst hcap;have hlen:len=0:=V6
          subst hlen;cases elems with
          | cons _ _=>simp at l1
          | nil=>
            cases rest with
            | cons _ _=>simp at l2
            | nil=>
              intro ρ h hr hn;exact⟨ρ,h,_,Ren.le_refl ρ,Grow.refl h,hr,hn,LR.single (.Uo a),.empty hu⟩
         ·have hel:∀i,i<len->∃cs x,W.cells? 0 (a.add (i*P.cellsOf e)) (P.cellsOf e)=some cs/\DataW.trod enc P W 0 (fun _=>true) true fuel e cs=some x/\elems[i]? =some x:=by
           intro i hi;have hx:i<elems.length:=V6
           have:=g1 i i elems[i] (by simp[hi]) (by simp[hx]);rw[Option.bind_eq_some_iff]at this;obtain⟨cs,q1,q2⟩:=this;exact⟨cs,_,q1,q2,by simp[hx]⟩
          have h0:∃cs,W.cells? 0 a (P.cellsOf e)=some cs:=by
           have ha:a.add (0*P.cellsOf e)=a:=by rw[Nat.zero_mul];unfold Addr.add;rw[if_pos rfl]
           rcases Nat.eq_zero_or_pos len with hl|hl
           ·subst hl;have hx:0<rest.length:=V6
            have:=g2 0 0 rest[0] (by rw[List.getElem?_range V6]) (by simp[hx]);rw[Option.bind_eq_some_iff]at this;obtain⟨cs,q1,q2⟩:=this;rw[Nat.add_zero,ha]at q1;exact⟨cs,q1⟩
           ·obtain⟨cs,_,q,_⟩:=hel 0 hl;rw[ha]at q;exact⟨cs,q⟩
          have hcs:∀i,i<len->W.cells? 0 (a.add (i*P.cellsOf e)) (P.cellsOf e)=some ((W.cells? 0 (a.add (i*P.cellsOf e)) (P.cellsOf e)).getD []):=by
           intro i hi;obtain⟨cs,_,q,_⟩:=hel i hi;rw[q];rfl
          generalize ZOv:(fun i=>(W.cells? 0 (a.add (i*P.cellsOf e)) (P.cellsOf e)).getD [])=css;have hcs:∀i,i<len->W.cells? 0 (a.add (i*P.cellsOf e)) (P.cellsOf e)=some (css i):=fun i hi=>by rw[<-ZOv];exact hcs i hi
          obtain⟨hsp,c,el,fz,hb,hlim,hcell⟩:=ZrM hsz h0 hcs
          have hlg:∀i y,((List.range len).map fun i=>(e,css i,((elems[i]?).map (·.1)).getD .nil))[i]? =some y->i<len/\y=(e,css i,((elems[i]?).map (·.1)).getD .nil):=by
           intro i y hy;rw[GC]at hy;rcases Gl i len with q|q
           ·rw[List.getElem?_range q]at hy;exact⟨q,(Oi0 hy).symm⟩
           ·rw[Jn (by simpa using q)]at hy;cases hy
          generalize hl:(List.range len).map (fun i=>(e,css i,((elems[i]?).map (·.1)).getD .nil))=l at hlg;have hll:l.length=len:=by rw[<-hl];simp
          have hm:l.map (·.2.2)=elems.map (·.1):=by
           apply GF;intro i;rw[<-hl,Gd,GC,GC];rcases Gl i len with q|q
           ·rw[List.getElem?_range q];obtain⟨_,x,_,_,q2⟩:=hel i q;simp[q2]
           ·rw[Jn (by simpa using q),Jn V6];rfl
          have hlE:∀x∈l,ZlR P W x.1 x.2.1 x.2.2:=by
           intro x hx;obtain⟨i,hi⟩:=GA hx;obtain⟨hi2,rfl⟩:=hlg i x hi;obtain⟨cs,y,q1,q2,q3⟩:=hel i hi2;rw[hcs i hi2]at q1;cases q1;rw[q3];exact ih e _ _ y.2 hg.1 q2
          intro ρ h hr hn;obtain⟨ρ1,h1,els,p1,p2,p3,p4,p5,p6,p7⟩:=Zna l hlE ρ h hr hn
          have hec:∀(i:Nat)(x:U N×DataW E),els[i]? =some x->i<len/\LR ρ1 x.1 (css i)/\x.1.length=P.cellsOf e/\AR P h1 e x.1 x.2:=by
           intro i x hx;have hi:i<els.length:=(Li0 hx).1;have hi2:i<l.length:=V6
           obtain⟨q,hy⟩:=hlg i l[i] (by simp[hi2]);have:=p7 i x l[i] hx (by simp[hi2]);rw[hy]at this;refine⟨q,this.1,?_,this.2⟩;rw[this.1.1];exact(Zgr (hcs i q) hsz).1
          have hsize:∀x∈els,x.1.length=P.cellsOf e:=fun x hx=>by
           obtain⟨i,hi⟩:=GA hx;exact(hec i x hi).2.2.1
          obtain⟨r1,r2,r3,r4⟩:=ZBa (cs:=els.flatMap (·.1)) p3 p4 hb (by rw[ZeV els hsize,p6,hll];exact hlim) (by
           intro k v v' k1 k2
           have hk:k<els.length*P.cellsOf e:=by
            rw[<-ZeV els hsize];exact(Li0 k1).1
           have hd:k / P.cellsOf e*P.cellsOf e+k % P.cellsOf e=k:=by rw[Nat.mul_comm];exact Nat.div_add_mod _ _
           have hj:k % P.cellsOf e<P.cellsOf e:=Nat.mod_lt _ hsz;rw[<-hd,flat_get els hsize _ _ hj,Option.bind_eq_some_iff]at k1;obtain⟨x,x1,x2⟩:=k1;obtain⟨y1,y2,_,_⟩:=hec _ x x1;obtain⟨u,z1,z2⟩:=hcell _ _ y1 hj;rw[hd,k2]at z1;cases z1;exact y2.2 _ _ _ x2 z2)
          refine⟨_,_,[.slice (some ⟨h1.size,0,none⟩) els.length (2*cap)],Ren.le_trans p1 r1,p2.trans r2,r3,r4,LR.single ?_,?_⟩
          ·obtain⟨blk,off,spot⟩:=a;dsimp only at hsp;subst hsp;have ZOo:els.length=len:=V6
           rw[ZOo];exact VR.slice 0 len (2*cap) cap (Ren.add_same _ _ _ _) ⟨KB hcm (by decide),by rw[if_pos V6];omega⟩
          ·rw[<-hm,<-p5]
           exact .slice hu V6 hcm (by rw[H.Qd,if_pos rfl]) hsize fun x hx=>by
            obtain⟨i,hi⟩:=GA hx;exact((hec i x hi).2.2.2).grow r2
        ·cases h
     | struct fs=>
       rw[Ba0]at hg;dsimp only at h;split at h
       ·rename_i hlen;rw[Option.map_eq_some_iff]at h;obtain⟨xs,e1,h⟩:=h;cases h;obtain⟨l1,g1⟩:=ZeB e1
        have hlg:∀(i:Nat)(y:J×U N×DataW E),(List.zipWith (fun(f:Field)(x:DataW E×U MemPlace)=>(f.type,(cs.drop f.offset).take (P.cellsOf f.type),x.1)) fs.toList xs)[i]? =some y ->
         ∃(f:Field) (x:DataW E×U MemPlace),fs.toList[i]? =some f/\xs[i]? =some x/\y=(f.type,(cs.drop f.offset).take (P.cellsOf f.type),x.1):=by
         intro i y hy;rw[List.getElem?_zipWith]at hy;split at hy
         ·rename_i f x hf hx;exact⟨f,x,hf,hx,(Oi0 hy).symm⟩
         ·cases hy
        generalize hl:List.zipWith (fun(f:Field)(x:DataW E×U MemPlace)=>(f.type,(cs.drop f.offset).take (P.cellsOf f.type),x.1)) fs.toList xs=l at hlg;have hll:l.length=fs.toList.length:=by rw[<-hl,List.length_zipWith,l1];exact Nat.min_self _
        have hget:∀(i:Nat)(f:Field),fs.toList[i]? =some f->∃x,xs[i]? =some x/\l[i]? =some (f.type,(cs.drop f.offset).take (P.cellsOf f.type),x.1)/\DataW.trod enc P W 0 (fun _=>true) true fuel f.type ((cs.drop f.offset).take (P.cellsOf f.type))=some x:=by
         intro i f hf;have hi:i<xs.length:=by rw[l1];exact(Li0 hf).1
         have hx:xs[i]? =some xs[i]:=by simp[hi]
         refine⟨xs[i],hx,?_,g1 i f _ hf hx⟩;rw[<-hl,List.getElem?_zipWith,hf,hx]
        have hm:l.map (·.2.2)=xs.map (·.1):=by
         apply GF;intro i;rw[GC,GC];cases hf:fs.toList[i]? with
         | some f=>
           obtain⟨x,q1,q2,_⟩:=hget i f hf;rw[q1,q2];rfl
         | none=>
           have:=List.getElem?_eq_none_iff.1 hf;rw[Jn V6,Jn V6];rfl
        have hlE:∀x∈l,ZlR P W x.1 x.2.1 x.2.2:=by
         intro y hy;obtain⟨i,hi⟩:=GA hy;obtain⟨f,x,hf,hx,rfl⟩:=hlg i y hi;have hgf:=(Ks.1 hg.1) f (List.mem_of_getElem? hf);exact ih f.type _ _ x.2 hgf (g1 i f x hf hx)
        have hseg:cs=l.flatMap (·.2.1):=by
         have:=Zu9 (P:=P) (cs:=cs) fs.toList 0 (by rw[hlen];exact hg.2);rw[List.drop_zero]at this
         have h3:l.map (·.2.1)=fs.toList.map fun(f:Field)=>(cs.drop f.offset).take (P.cellsOf f.type):=by
          apply GF;intro i;rw[GC,GC];cases hf:fs.toList[i]? with
          | some f=>
            obtain⟨x,q1,q2,_⟩:=hget i f hf;rw[q2];rfl
          | none=>
            have:=List.getElem?_eq_none_iff.1 hf;rw[Jn V6];rfl
         rw[List.flatMap_def,h3,<-List.flatMap_def];exact this
        intro ρ h hr hn;obtain⟨ρ1,h1,els,p1,p2,p3,p4,p5,p6,p7⟩:=Zna l hlE ρ h hr hn
        have hlr:LR ρ1 (els.flatMap (·.1)) cs:=by
         rw[hseg];exact LR.flat els l p6 fun i x y e1 e2=>(p7 i x y e1 e2).1
        refine⟨ρ1,h1,els.flatMap (·.1),p1,p2,p3,p4,hlr,?_⟩;rw[<-hm,<-p5];refine .struct hu V6 (fun i x f hx hf=>?_) fun i x f hx hf=>?_
        ·obtain⟨y,q1,q2,_⟩:=hget i f hf;rw[(p7 i x _ hx q2).1.1];have hmem:Za8 P fs.toList 0 cs.length=true:=by rw[hlen];exact hg.2
         obtain⟨c1,c2⟩:=ZrX _ _ _ hmem;have c3:=c2 i f hf;have hi:=(Li0 hf).1
         have c4:((fs.toList.take i).map fun f=>P.cellsOf f.type).sum+P.cellsOf f.type+((fs.toList.drop (i+1)).map fun f=>P.cellsOf f.type).sum=(fs.toList.map fun f=>P.cellsOf f.type).sum:=by
          have:fs.toList=fs.toList.take i++f::fs.toList.drop (i+1):=by
           have h5:fs.toList[i]=f:=(Li0 hf).2;rw[<-h5,List.getElem_cons_drop,List.take_append_drop]
          conv=>rhs;rw[this]
          simp only[GS,G8,List.sum_append,List.sum_cons];omega
         dsimp only;rw[GL,GU];omega
        ·obtain⟨y,q1,q2,_⟩:=hget i f hf;exact(p7 i x _ hx q2).2
       ·cases h
     | _=>cases hg
end
section
open Go.Lf
variable{P:GW}
def ZqS{α:Type}{e:Wh α}{V:α->Prop}{E:Type}{h:H}{els:U (U N×DataW E)}{i cap:Nat}(hl:els.length<=cap)(hcap:cap<=maxLen)(hat:h.at i=.row (els.flatMap (·.1)) false 0)(hsz:∀x∈els,x.1.length=e.sz)
 (hel:∀x∈els,∃p y,x.1=e.sh p y/\V y/\∀wm,e.F wm h p y):
 ∃(p:O Addr×Nat) (ys:U α),[Value.slice (some ⟨i,0,none⟩) els.length (2*cap)]=(Y4 e).sh p ys/\(∀y∈ys,V y)/\∀wm,(Y4 e).F wm h p ys:=by
 obtain⟨ys,h1,hv,h2⟩:=Zci (e:=e) els hel;refine⟨(some ⟨i,0,none⟩,2*cap),ys,by show [Value.slice _ _ _]=[Value.slice _ _ _];rw[h1],hv,fun wm=>⟨?_,?_,.inr (.inr ⟨_,_,rfl⟩),.inr ⟨i,0,_,false,0,rfl,hat,.inr rfl,?_,fun k y hk=>?_⟩⟩⟩
 ·rw[h1];exact KB (KB hl hcap) (by decide)
 ·rw[h1];omega
 ·rw[h1,JT,ZeV els hsz];exact K1 _
 ·obtain⟨x,p,q1,q2,q3⟩:=h2 k y hk;refine⟨p,?_,q3 wm⟩;rw[JT,ZdV els hsz q1,q2]
end
end Go.ZK
end
end
section
set_option maxRecDepth 100000
noncomputable section
namespace Go.Proofs.YtbnepjakjmnadaaGreat
open Go.ZK Go.Lf
section
def wfI(n:Int):Prop:=(Lit.int .i64 n).wf=true
inductive Zsn:Zg->Prop
 | mk {x:Zg} (ho:wfI x.op) (hn:wfI x.n) (ht:x.text.size<=maxLen) (hk:∀y∈x.kids,Zsn y):Zsn x
def ZDl(x:Z4):Prop:=x.text.size<=maxLen/\∀s∈x.names,s.size<=maxLen
mutual
inductive Zfz:Term->Prop
 | mk {x:Term} (ho:wfI x.op) (ht:x.text.size<=maxLen) (ha:∀y∈x.args,Zsn y) (hd:∀y∈x.defs,Zc5 y) (hk:∀y∈x.kids,Zfz y):Zfz x
inductive Zc5:Za->Prop
 | mk {x:Za} (ho:wfI x.form) (ht:x.text.size<=maxLen) (ha:∀y∈x.joins,ZDl y) (hd:∀y∈x.defs,Zc5 y) (hk:∀y∈x.kids,Zfz y):Zc5 x
end
def ZJf:Wd XX.P (Zif .i64) wfI 34:=.int Kq0 Kq0
def ZJg:Wd XX.P (Zif .i64) wfI 28:=.int Kq0 Kq0
def ZFw:Wd XX.P (Zif .i64) wfI 127:=.int Kq0 Kq0
def ZNG:Wd XX.P (Zif .i64) wfI 3:=.int Kq0 Kq0
def Zwz:Wd XX.P YG (fun s=>s.size<=maxLen) 9:=.str Kq0 Kq0
def ZJe:Wd XX.P (Y4 YG) (fun l=>∀x∈l,x.size<=maxLen) 22:=.slice Kq0 Kq0 Zwz
def ZFu:Wd XX.P ZT ZDl 136:=⟨by kernel_rfl,fun a=>by
 obtain⟨els,rfl,hl,hel⟩:=a.Zuu Tryz.underlying136
 match els,hl,hel with
 | [x0,x1],_,hel=>
   obtain⟨p0,y0,e0,v0,f0⟩:=Zwz.2 (hel 0 x0 _ rfl rfl);obtain⟨p1,y1,e1,v1,f1⟩:=ZJe.2 (hel 1 x1 _ rfl rfl);exact⟨p1,⟨y0,y1⟩,by simp only[Kd,List.flatMap_nil,e0,e1];rfl,⟨v0,v1⟩,fun wm=>f1 wm⟩⟩
def ZFv:Wd XX.P (Y4 ZT) (fun l=>∀x∈l,ZDl x) 128:=.slice Kq0 Kq0 ZFu
def Zqg(h:H)(cs:U N){α:Type}(e:Wh α)(V:α->Prop):Prop:=∃p x,cs=e.sh p x/\V x/\∀wm,e.F wm h p x
structure ZAc(h:H)(t:TypeId)(cs:List Value):Prop where
 fe:t=36->Zqg h cs Zh Zsn
 fel:t=29->Zqg h cs (Y4 Zh) (fun l=>∀x∈l,Zsn x)
 ft:t=33->Zqg h cs Zv Zfz
 ftl:t=31->Zqg h cs (Y4 Zv) (fun l=>∀x∈l,Zfz x)
 fc:t=130->Zqg h cs Zc Zc5
 fcl:t=30->Zqg h cs (Y4 Zc) (fun l=>∀x∈l,Zc5 x)
def ZwP{h:H}{α:Type}{e:Wh α}{V:α->Prop}:Zqg h [V3] (Y4 e) (fun l=>∀x∈l,V x):=⟨(none,0),[],rfl,by simp,fun _=>Sl.nil⟩
def Zm9{h:H}{α:Type}{e:Wh α}{V:α->Prop}:Zqg h [.slice (some ⟨0,0,some 0⟩) 0 0] (Y4 e) (fun l=>∀x∈l,V x):=
 ⟨(some ⟨0,0,some 0⟩,0),[],rfl,by simp,fun _=>⟨by simp,by simp,.inr (.inl ⟨rfl,rfl⟩),.inl rfl⟩⟩
def ZFk{E:Type}{h:H}{t:J}{cs:U N}{d:DataW E}(a:AR XX.P h t cs d):ZAc h t cs:=by
 have no:∀{t:J}{cs:U N},t≠36->t≠29->t≠33->t≠31->t≠130->t≠30->ZAc h t cs:=fun a b c d e f=>⟨fun x=>absurd x a,fun x=>absurd x b,fun x=>absurd x c,fun x=>absurd x d,fun x=>absurd x e,fun x=>absurd x f⟩
 have u36:=Tryz.underlying36;have u29:=Tryz.underlying29;have u33:=Tryz.underlying33;have u31:=Tryz.underlying31;have Zwg:=Tryz.underlying130;have u30:=Tryz.underlying30
 have Zl9:∀{t:J}{u:TypeDesc},XX.P.underlying t=some u->(∀e,u≠.slice e)->(∀f,u≠.struct f)->∀cs,ZAc h t cs:=by
  intro t u hu h1 h2 cs;refine no ?_ ?_ ?_ ?_ ?_ ?_<;>(rintro rfl)
  ·rw[show XX.P.underlying 36=_ from u36]at hu;cases hu;exact h2 _ rfl
  ·rw[show XX.P.underlying 29=_ from u29]at hu;cases hu;exact h1 _ rfl
  ·rw[show XX.P.underlying 33=_ from u33]at hu;cases hu;exact h2 _ rfl
  ·rw[show XX.P.underlying 31=_ from u31]at hu;cases hu;exact h1 _ rfl
  ·rw[show XX.P.underlying 130=_ from Zwg]at hu;cases hu;exact h2 _ rfl
  ·rw[show XX.P.underlying 30=_ from u30]at hu;cases hu;exact h1 _ rfl
 induction a with
 | bool hu=>exact Zl9 hu (fun _=>by simp) (fun _=>by simp) _
 | int hu _=>exact Zl9 hu (fun _=>by simp) (fun _=>by simp) _
 | string hu _=>exact Zl9 hu (fun _=>by simp) (fun _=>by simp) _
 | nil hu=>
   refine⟨?_,fun _=>ZwP,?_,fun _=>ZwP,?_,fun _=>ZwP⟩
   ·rintro rfl;rw[show XX.P.underlying 36=_ from u36]at hu;cases hu
   ·rintro rfl;rw[show XX.P.underlying 33=_ from u33]at hu;cases hu
   ·rintro rfl;rw[show XX.P.underlying 130=_ from Zwg]at hu;cases hu
 | empty hu=>
   refine⟨?_,fun _=>Zm9,?_,fun _=>Zm9,?_,fun _=>Zm9⟩
   ·rintro rfl;rw[show XX.P.underlying 36=_ from u36]at hu;cases hu
   ·rintro rfl;rw[show XX.P.underlying 33=_ from u33]at hu;cases hu
   ·rintro rfl;rw[show XX.P.underlying 130=_ from Zwg]at hu;cases hu
 | slice hu hl hc hat hsz _ ih=>
   refine⟨?_,?_,?_,?_,?_,?_⟩
   ·rintro rfl;rw[show XX.P.underlying 36=_ from u36]at hu;cases hu
   ·rintro rfl;rw[show XX.P.underlying 29=_ from u29]at hu;cases hu;exact ZqS hl hc hat (fun x hx=>(hsz x hx).trans Kq0) fun x hx=>(ih x hx).fe rfl
   ·rintro rfl;rw[show XX.P.underlying 33=_ from u33]at hu;cases hu
   ·rintro rfl;rw[show XX.P.underlying 31=_ from u31]at hu;cases hu;exact ZqS hl hc hat (fun x hx=>(hsz x hx).trans Kq0) fun x hx=>(ih x hx).ft rfl
   ·rintro rfl;rw[show XX.P.underlying 130=_ from Zwg]at hu;cases hu
   ·rintro rfl;rw[show XX.P.underlying 30=_ from u30]at hu;cases hu;exact ZqS hl hc hat (fun x hx=>(hsz x hx).trans Kq0) fun x hx=>(ih x hx).fc rfl
 | @struct t fs els hu hl hsz hel ih=>
   refine⟨?_,?_,?_,?_,?_,?_⟩
   ·rintro rfl;rw[show XX.P.underlying 36=_ from u36]at hu;cases hu
    match els,hl,hel,ih with
    | [x0,x1,x2,x3],_,hel,ih=>
      obtain⟨p0,y0,e0,v0,f0⟩:=ZJf.2 (hel 0 x0 _ rfl rfl);obtain⟨p1,y1,e1,v1,f1⟩:=ZNG.2 (hel 1 x1 _ rfl rfl);obtain⟨p2,y2,e2,v2,f2⟩:=Zwz.2 (hel 2 x2 _ rfl rfl);obtain⟨p3,y3,e3,v3,f3⟩:=(ih 3 x3 _ rfl rfl).fel rfl;exact⟨p3,⟨y0,y1,y2,y3⟩,by simp only[Kd,List.flatMap_nil,e0,e1,e2,e3];rfl,.mk v0 v1 v2 v3,fun wm=>YJ.2 (f3 wm)⟩
   ·rintro rfl;rw[show XX.P.underlying 29=_ from u29]at hu;cases hu
   ·rintro rfl;rw[show XX.P.underlying 33=_ from u33]at hu;cases hu
    match els,hl,hel,ih with
    | [x0,x1,x2,x3,x4],_,hel,ih=>
      obtain⟨p0,y0,e0,v0,f0⟩:=ZJg.2 (hel 0 x0 _ rfl rfl);obtain⟨p1,y1,e1,v1,f1⟩:=Zwz.2 (hel 1 x1 _ rfl rfl);obtain⟨p2,y2,e2,v2,f2⟩:=(ih 2 x2 _ rfl rfl).fel rfl;obtain⟨p3,y3,e3,v3,f3⟩:=(ih 3 x3 _ rfl rfl).fcl rfl;obtain⟨p4,y4,e4,v4,f4⟩:=(ih 4 x4 _ rfl rfl).ftl rfl;exact⟨(p2,p3,p4),⟨y0,y1,y2,y3,y4⟩,by simp only[Kd,List.flatMap_nil,e0,e1,e2,e3,e4];rfl,.mk v0 v1 v2 v3 v4,fun wm=>Jf.2 ⟨f2 wm,f3 wm,f4 wm⟩⟩
   ·rintro rfl;rw[show XX.P.underlying 31=_ from u31]at hu;cases hu
   ·rintro rfl;rw[show XX.P.underlying 130=_ from Zwg]at hu;cases hu
    match els,hl,hel,ih with
    | [x0,x1,x2,x3,x4],_,hel,ih=>
      obtain⟨p0,y0,e0,v0,f0⟩:=ZFw.2 (hel 0 x0 _ rfl rfl);obtain⟨p1,y1,e1,v1,f1⟩:=Zwz.2 (hel 1 x1 _ rfl rfl);obtain⟨p2,y2,e2,v2,f2⟩:=ZFv.2 (hel 2 x2 _ rfl rfl);obtain⟨p3,y3,e3,v3,f3⟩:=(ih 3 x3 _ rfl rfl).fcl rfl;obtain⟨p4,y4,e4,v4,f4⟩:=(ih 4 x4 _ rfl rfl).ftl rfl;exact⟨(p2,p3,p4),⟨y0,y1,y2,y3,y4⟩,by simp only[Kd,List.flatMap_nil,e0,e1,e2,e3,e4];rfl,.mk v0 v1 v2 v3 v4,fun wm=>ZY.2 ⟨f2 wm,f3 wm,f4 wm⟩⟩
   ·rintro rfl;rw[show XX.P.underlying 30=_ from u30]at hu;cases hu
def ZJd:Wd XX.P Zv Zfz 33:=⟨by kernel_rfl,fun a=>(ZFk a).ft rfl⟩
def ZDA:U J:=[33,28,9,29,30,31,36,34,3,130,127,128,136,22]
def Zwh:ZDA.all (ZmK XX.P ZDA)=true:=Kq0
end
section
def ZcL:maxLen=BB:=by decide
def ZFN{wm:Nat}{h:H}{p:SlP}{x:Zg}(s:Zcr wm h p x):Zsn x->Lo (.ex x):=by
 induction s with
 | @mk p x ps hk _ ih=>
   intro v;obtain⟨_,_,ht,hv⟩:=v;intro y hy;rw[pre_eq]at hy;rcases Kx.1 hy with rfl|hy
   ·exact⟨by rw[<-ZcL];exact ht,hk.max⟩
   ·obtain⟨k,hkk,hy⟩:=Q3.1 hy;obtain⟨z,hz,rfl⟩:=G3.1 hkk;obtain⟨i,hi⟩:=GA hz;exact ih i z hi (hv z hz) y hy
def ZBy{wm:Nat}{h:H}{a:O Addr}{c:Nat}{l:U Zg}(s:Sl Zh wm h a c l)(v:∀x∈l,Zsn x):∀x∈l,Lo (.ex x):=fun x hx=>by
 obtain⟨ps,_,hF⟩:=Sl.iff.1 s;obtain⟨i,hi⟩:=GA hx;exact ZFN (hF i x hi) (v x hx)
def ZBx{wm:Nat}{h:H}{a:O Addr}{c:Nat}{l:U Z4}(s:Sl ZT wm h a c l)(v:∀x∈l,ZDl x):∀m∈l,m.text.size<=BB/\m.names.length<=BB/\∀s∈m.names,s.size<=BB:=fun m hm=>by
 obtain⟨ps,_,hF⟩:=Sl.iff.1 s;obtain⟨i,hi⟩:=GA hm;have f:Sl YG wm h (ps i).1 (ps i).2 m.names:=hF i m hi;have:=v m hm;rw[<-ZcL];exact⟨this.1,f.max,this.2⟩
def Zxa{x:Term}(h1:x.text.size<=BB)(h2:x.args.length<=BB)(h3:x.defs.length<=BB)(h4:x.kids.length<=BB)(a:∀y∈x.args,Lo (.ex y))(b:∀y∈x.defs,Lo (.cl y))(c:∀y∈x.kids,Lo (.pr y)):Lo (.pr x):=by
 intro y hy;rw[pre_eq]at hy;rcases Kx.1 hy with rfl|hy
 ·exact⟨h1,h2,h3,h4⟩
 ·obtain⟨k,hk,hy⟩:=Q3.1 hy;simp only[ZM,Q1,G3]at hk;rcases hk with(⟨z,hz,rfl⟩|⟨z,hz,rfl⟩) | ⟨z,hz,rfl⟩
  ·exact a z hz y hy
  ·exact b z hz y hy
  ·exact c z hz y hy
def Zxb{x:Za}(h1:x.text.size<=BB)(h2:x.joins.length<=BB)(h3:x.defs.length<=BB)(h4:x.kids.length<=BB)(a:∀m∈x.joins,m.text.size<=BB/\m.names.length<=BB/\∀s∈m.names,s.size<=BB)(b:∀y∈x.defs,Lo (.cl y))(c:∀y∈x.kids,Lo (.pr y)):Lo (.cl x):=by
 intro y hy;rw[pre_eq]at hy;rcases Kx.1 hy with rfl|hy
 ·exact⟨h1,h2,h3,h4,a⟩
 ·obtain⟨k,hk,hy⟩:=Q3.1 hy;simp only[ZM,Q1,G3]at hk;rcases hk with⟨z,hz,rfl⟩|⟨z,hz,rfl⟩
  ·exact b z hz y hy
  ·exact c z hz y hy
def ZBw{wm:Nat}{h:H}{p:TmP}{x:Term}(s:Jk wm h p x):Zfz x->Lo (.pr x):=
 Jk.rec (motive_1:=fun p x _=>Zfz x->Lo (.pr x)) (motive_2:=fun p x _=>Zc5 x->Lo (.cl x))
  (fun{p x} pd pk ha hd hk _ _ i1 i2 v=>by
    obtain⟨_,ht,va,vd,vk⟩:=v
    exact Zxa (by rw[<-ZcL];exact ht) ha.max hd.max hk.max (ZBy ha va)
     (fun y hy=>by obtain⟨i,hi⟩:=GA hy;exact i1 i y hi (vd y hy)) (fun y hy=>by obtain⟨i,hi⟩:=GA hy;exact i2 i y hi (vk y hy)))
  (fun{p x} pd pk ha hd hk _ _ i1 i2 v=>by
    obtain⟨_,ht,va,vd,vk⟩:=v
    exact Zxb (by rw[<-ZcL];exact ht) ha.max hd.max hk.max (ZBx ha va)
     (fun y hy=>by obtain⟨i,hi⟩:=GA hy;exact i1 i y hi (vd y hy)) (fun y hy=>by obtain⟨i,hi⟩:=GA hy;exact i2 i y hi (vk y hy))) s
def Ztj(t:Term):Nat:=10000000000000000000+(pre (.pr t)).length
end
section
def Zw0{F:Nat}(l r:U Y)(hF:l.length<F)(hl:l.length<4000000000000000000):Zkw F l r=some (decide (l=r)):=by
 unfold Zkw;by_cases hne:l.length=r.length
 ·have:((l.length:Int) !=(r.length:Int))=false:=by rw[hne];exact ZcI _
  rw[this,Cq0]
  have:=ZiJ (body:=ZdY l r) (r1:=some false) (r2:=some true) (fun k:Nat=>(k:Int)) (fun k=>!decide (l[k]? =r[k]?)) (n:=l.length) hF
   (fun k hk next=>by
     simp only[ZdY,Yc hk,Cq1,Qn hk,Qn (show k<r.length by omega),Bq0,ZhU (show k<4611686018427387904 by omega)];rw[J1 hk,J1 (show k<r.length by omega)];simp)
   (fun next=>by simp[ZdY])
  have e:(List.range l.length).any (fun k=>!decide (l[k]? =r[k]?))= !decide (l=r):=by
   rw[Gx,List.any_eq_true,Bool.not_eq_true',decide_eq_false_iff_not]
   constructor
   ·rintro⟨k,_,hk⟩ e;rw[e]at hk;simp at hk
   ·intro hne2;by_cases hz:∃k,k<l.length/\l[k]?≠r[k]?
    ·obtain⟨k,hk,h⟩:=hz;exact⟨k,GK.2 hk,by simpa using h⟩
    ·refine absurd (GF fun k=>?_) hne2;by_cases hk:k<l.length
     ·exact Decidable.byContradiction fun h=>hz ⟨k,hk,h⟩
     ·rw[Jn V6,Jn V6]
  refine this.trans ?_;rw[e];cases decide (l=r)<;>rfl
 ·have:((l.length:Int) !=(r.length:Int))=true:=by simpa using fun h=>hne V6
  rw[this,Cq1,decide_eq_false fun h=>hne (congrArg _ h)]
def Zq8{F:Nat}(l:U Y)(hF:l.length<F)(hl:l.length<4000000000000000000):Zkw F l l=some true:=by
 rw[Zw0 l l hF hl,decide_eq_true rfl]
def Zkj(t:Term):(Zdp t).length<=(pre (.pr t)).length:=by
 have a:=ZkX (JY (.pr t) []) [];have b:=Zm2 (.pr t) [];unfold Zdp;simp only[GT]at a;omega
def Zym{F:Nat}(hF:10000000000000000000<=F)(t:Term)(hs:Lo (.pr t))(hFp:(pre (.pr t)).length<=F):Zvd F t=some (bif Q7 AgW (.pr t) then(Zdp t,0) else([],2)):=by
 unfold Zvd;rw[Zc0 hF t hs hFp];cases h:Q7 AgW (.pr t)
 ·rfl
 ·obtain⟨a,b⟩:=JA h;show((ZrD F t).bind fun m=>bif Zf2 m then some (Zak m,0) else none)=_;rw[(Zi9 hF t a b).1,Bq0,ZoG a b,ZdF];rfl
def Zg9(q:U (Y×Y))(m:NM):NM:=q.foldl (fun m p=>YT m p.1 (nam p.2)) m
def ZlH:∀(q:U (Y×Y))(m:NM)(x:Y),ZP (Zg9 q m) x=match ZP (q.map fun p=>(p.1,nam p.2)).reverse x with|some v=>some v|none=>ZP m x
 | [],m,x=>by simp[Zg9,ZP,Yk]
 | p::q,m,x=>by
   show ZP (Zg9 q (YT m p.1 (nam p.2))) x=_;rw[ZlH q,Zar,G8,List.reverse_cons,Zas];cases ZP (q.map fun p=>(p.1,nam p.2)).reverse x with
   | some v=>rfl
   | none=>
     rw[ZcK];by_cases h:x=p.1
     ·rw[if_pos h,if_pos h.symm]
     ·rw[if_neg h,if_neg fun e=>h e.symm];rfl
def ZpY{F:Nat}(hF:10000000000000000000<=F)(l to:U Y)(hl:l.length=to.length)(hn:l.length<=100000):loop F (KG l to) (0,[])=some (Zg9 (l.zip to) []):=by
 have hz:(l.zip to).length=l.length:=by rw[List.length_zip,<-hl,Nat.min_self]
 refine YA (body:=KG l to) (fun(k:Nat)(m:NM)=>((k:Int),m)) (l.zip to) (fun _ _=>True) (fun rest m=>some (Zg9 rest m)) (F:=F) ?_ ?_ V6 [] trivial
 ·intro m nx _;rw[hz];simp only[KG,Yp,Cq0];rfl
 ·intro k p rest m nx hx hk hg _ ih;rw[hz]at hk;have hg':(l.zip to)[k]? =some p:=by rwa[Zi8]at hg
  rw[List.getElem?_zip_eq_some]at hg';simp only[KG,Yc hk,Cq1,Zi8,hg'.1,hg'.2,Bq0,Zpt];rw[JR V6];exact ih _ trivial
def YK(m:MB):U Y:=m.map (·.1)
def Zef(m:MB):Prop:=∀p∈m,p.2=true
def Zef.get{m:MB}(h:Zef m)(x:Y):(ZP m x).getD false=decide (x∈YK m):=by
 have hs:=KS (l:=m) (k:=x);cases e:ZP m x with
 | none=>
   rw[e]at hs;rw[decide_eq_false (show ¬ x∈YK m from fun z=>(by have:=hs.2 z;cases this))];rfl
 | some v=>
   rw[e]at hs;rw[decide_eq_true (show x∈YK m from hs.1 rfl)];exact h _ (ZbR e)
def Zef.YT{m:MB}(h:Zef m)(x:Y):Zef (YT m x true):=fun p hp=>by
 rcases Go.ZK.ZiB hp with q|q
 ·exact h p q
 ·exact q
def frm(m:MB):Nat->MB×U Y
 | 0=>(m,[])
 | n+1=>((frm (YT m (QG (YK m)) true) n).1,QG (YK m)::(frm (YT m (QG (YK m)) true) n).2)
def ZdN{m:MB}(h:m.length<=800000):YK (YT m (QG (YK m)) true)=YK m++[QG (YK m)]:=by
 have:=(Zg2 (l:=YK m) (by unfold YK;rw[Gc];omega)).2;unfold YK at this ⊢;rw[Zlf,if_neg this]
def ZcN{m:MB}(h:m.length<=800000):(YT m (QG (YK m)) true).length=m.length+1:=by
 have:=congrArg List.length (ZdN h);unfold YK at this;rw[K2,Gc,Gc,List.length_singleton]at this;exact this
def Zhz:∀(n:Nat)(m:MB),m.length+n<=800000->(frm m n).2.length=n/\(frm m n).1.length=m.length+n
 | 0,m,_=>⟨rfl,rfl⟩
 | n+1,m,h=>by
   have hl:=ZcN (m:=m) V6;obtain⟨a,b⟩:=Zhz n (YT m (QG (YK m)) true) V6;exact⟨by show(frm _ n).2.length+1=_;omega,by show(frm _ n).1.length=_;omega⟩
def ZhA:∀(n:Nat)(m:MB),Zef m->Zef (frm m n).1
 | 0,m,h=>h
 | n+1,m,h=>ZhA n _ (h.YT _)
def Zpb:∀(n:Nat)(m:MB),m.length+n<=800000->YK (frm m n).1=YK m++(frm m n).2
 | 0,m,_=>(Gj _).symm
 | n+1,m,h=>by
   have hl:=ZcN (m:=m) V6;show YK (frm _ n).1=YK m++(QG (YK m)::(frm _ n).2);rw[Zpb n _ V6,ZdN V6,Gk];rfl
def Ztk:∀(n:Nat)(m:MB),m.length+n<=800000->(frm m n).2.Nodup/\∀x∈(frm m n).2,Xl x=true/\x∉YK m
 | 0,m,_=>⟨List.nodup_nil,fun x hx=>by cases hx⟩
 | n+1,m,h=>by
   have hl:=ZcN (m:=m) V6;obtain⟨a,b⟩:=Ztk n (YT m (QG (YK m)) true) V6;have hk:=ZdN (m:=m) V6;have hf:=Zg2 (l:=YK m) (by unfold YK;rw[Gc];omega)
   constructor
   ·show(QG (YK m)::(frm _ n).2).Nodup;rw[GD];refine⟨fun hx=>(b _ hx).2 ?_,a⟩;rw[hk];simp
   ·intro x hx;rcases Kx.1 (show x∈QG (YK m)::(frm _ n).2 from hx) with rfl|hx
    ·exact hf
    ·obtain⟨c,d⟩:=b x hx;exact⟨c,fun z=>d (by rw[hk];exact Gf _ z)⟩
def ZHc{F:Nat}(hF:10000000000000000000<=F){m:MB}(h:Zef m)(hl:m.length<=800000):ZyP F m=some (YT m (QG (YK m)) true,QG (YK m)):=by
 unfold ZyP;rw[ZyK (l:=YK m) h.get V6 (by unfold YK;rw[Gc];omega)];rfl
def Zty{F:Nat}(hF:10000000000000000000<=F)(m:MB)(c:U NM)(names:U Y)(wi:O MB)(h:Zef m)(hl:m.length+names.length<=800000)(hn:names.length<=100000):Zdv F m c names wi=some (frm m names.length):=by
 unfold Zdv
 have:=YA (body:=ZjD F names) (fun(k:Nat)(s:MB×U Y)=>((k:Int),s.1,s.2)) names (fun rest s=>Zef s.1/\s.1.length+rest.length<=800000/\s.2.length+rest.length<=100000)
  (fun rest s=>some ((frm s.1 rest.length).1,s.2++(frm s.1 rest.length).2)) (F:=F) ?_ ?_ V6 (m,[]) ⟨h,hl,by simpa using hn⟩
 ·exact this
 ·intro s nx _;simp only[ZjD,Yp,Cq0,GT,frm,Gj]
 ·intro k x rest s nx hx hk hg hp ih;obtain⟨p1,p2,p3⟩:=hp;simp only[KK]at p2 p3;have hlf:=ZcN (m:=s.1) V6;simp only[ZjD,Yc hk,Cq1,ZHc hF p1 (show s.1.length<=800000 by omega),Bq0];rw[ZMk V6 V6,Bq0,JR V6];have:=ih (YT s.1 (QG (YK s.1)) true,s.2++[QG (YK s.1)]) ⟨p1.YT _,by simp only;omega,by simp only[K2,List.length_singleton];omega⟩;refine this.trans ?_;simp only[KK,frm,Gk,List.singleton_append]
def bdC:BF MB:=fun tk _ names _=>frm tk names.length
def IC(k:Nat)(tk:MB):Prop:=Zef tk/\tk.length+k<=800000
def Zue{c:U NM}{env:NM}{B Bn:U Y}{bad:Y->Z}(h:CE c env B Bn bad){l to:U Y}(hl:l.length=to.length):CE (Zg9 (l.zip to) []::c) (ext env l to) (B++l) (Bn++l) (QZ bad l):=
 Zsv h hl fun x=>by
  rw[ZlH];cases ZP ((l.zip to).map fun p=>(p.1,nam p.2)).reverse x<;>simp[ZP,Yk]
def ZAq{F:Nat}(hF:10000000000000000000<=F):BE F IC (Zdz F (Zdv F)) (fun _ _=>none) (fun _=>none) bdC where
 mono:=fun k j tk h=>⟨h.1,by have:=h.2;omega⟩
 t:=fun tk c env B Bn bad t k hc _ _ _ _ _ hl hI=>by
  obtain⟨h1,h2⟩:=hI;obtain⟨a,b⟩:=Zhz (Qw t.defs).length tk V6;refine⟨Zg9 ((Qw t.defs).zip (frm tk (Qw t.defs).length).2) [],?_,Zue hc a.symm,ZhA _ _ h1,?_⟩
  ·unfold Zdz;rw[Zty hF tk c (Qw t.defs) none h1 V6 V6,Bq0,ZpY hF _ _ a.symm V6];rfl
  ·show(frm tk (Qw t.defs).length).1.length+k<=_;omega
 r:=fun tk c env B Bn bad p k hc _ _ _ _ _ hl hI=>by
  obtain⟨h1,h2⟩:=hI;obtain⟨a,b⟩:=Zhz (ZB p.joins).length tk V6;refine⟨Zg9 ((ZB p.joins).zip (frm tk (ZB p.joins).length).2) [],?_,Zue hc a.symm,ZhA _ _ h1,?_⟩
  ·unfold Zdz;rw[Zty hF tk c (ZB p.joins) none h1 V6 V6,Bq0,ZpY hF _ _ a.symm V6];rfl
  ·show(frm tk (ZB p.joins).length).1.length+k<=_;omega
def Zkc:∀(l:U Evt)(m:MB),Zef m->Zef (Y8 l m)
 | [],m,h=>h
 | e::l,m,h=>by
   show Zef (Y8 l (note m e.2 e.1));refine Zkc l _ ?_;unfold note;by_cases h1:e.1∈e.2
   ·rw[if_pos h1];exact h
   ·rw[if_neg h1];exact h.YT _
def tk0(t:Term):MB:=Y8 (JY (.pr t) []) []
def Zwi{t:Term}(hn:(pre (.pr t)).length<=60):Zef (tk0 t)/\(tk0 t).length<=60:=by
 obtain⟨_,_,k3⟩:=U2 (JY (.pr t) []) [] List.nodup_nil;have hl:=Zm2 (.pr t) [];refine⟨Zkc _ _ fun p hp=>(by cases hp),?_⟩;unfold tk0;simp only[GT]at k3;omega
def UF(t:Term):Term:=(Wt bdC (tk0 t) [] t).2
def ZjQ{F:Nat}(hF:10000000000000000000<=F)(t:Term)(hs:(pre (.pr t)).all Uq=true)(hn:(pre (.pr t)).length<=60):ZrA F t=some (UF t):=by
 obtain⟨a,b⟩:=Zwi hn;unfold ZrA;rw[(Zi9 hF t hs hn).1,Bq0];have h:=(Zwl hF (ZAq hF) 60 t hs hn V7 F V6 [] (tk0 t) [[]] [] [] [] _ 0 ZAo (by simp only[KK,GT];omega) (by simp;omega) ⟨a,by omega⟩).1;rw[(ZtZ 60).1 t hn _ fun _=>rfl]at h;have h':ZjE F (Zdz F (Zdv F)) (fun _ _=>none) (fun _=>none) (([],tk0 t),[[]],t)=_:=h;show Option.map _ ((ZjE F (Zdz F (Zdv F)) (fun _ _=>none) (fun _=>none) (([],tk0 t),[[]],t)).bind okP)=_;rw[h']
 rfl
def ZtT{F:Nat}(hF:10000000000000000000<=F)(t:Term)(hs:Lo (.pr t))(hFp:(pre (.pr t)).length<=F):Zva F t=some (bif Q7 AgW (.pr t) then(UF t,(0:Int)) else(.mk 0 (⟨#[]⟩:Y) [] [] [],2)):=by
 unfold Zva;rw[Zc0 hF t hs hFp,Bq0];cases h:Q7 AgW (.pr t) with
 | false=>rfl
 | true=>
   obtain⟨a,b⟩:=JA h;simp only[Cq1];rw[ZjQ hF t a b]
   rfl
inductive WsP{σ α:Type}(P:σ->α->σ×α->Prop):σ->List α->σ×List α->Prop
 | nil {s:σ}:WsP P s [] (s,[])
 | cons {s:σ} {a:α} {l:List α} {r:σ×α} {q:σ×List α} (h:P s a r) (t:WsP P r.1 l q):WsP P s (a::l) (q.1,r.2::q.2)
def ZMv{σ:Type}(bd:BF σ)(PT:σ->NM->Term->σ×Term->Prop)(PC:σ->NM->Za->σ×Za->Prop)
 (hd:∀(s:σ)(env en:NM)(t:Term)(s1:σ)(to:U Y)(rd:σ×U Za)(rk:σ×U Term),t.op=4->bd s env (Qw t.defs) (.pr t)=(s1,to)->en=ext env (Qw t.defs) to ->
   WsP (fun s c r=>PC s en c r) s1 t.defs rd->WsP (fun s k r=>PT s en k r) rd.1 t.kids rk->PT s env t (rk.1,.mk t.op (tx0 env t.text) (t.args.map (Ka env)) rd.2 rk.2))
 (he:∀(s:σ)(env:NM)(t:Term)(rk:σ×U Term),t.op≠4->WsP (fun s k r=>PT s env k r) s t.kids rk->PT s env t (rk.1,.mk t.op (tx0 env t.text) (t.args.map (Ka env)) [] rk.2))
 (hp:∀(s:σ)(env:NM)(c:Za)(rd:σ×U Za)(rk:σ×U Term),c.form=2->WsP (fun s d r=>PC s env d r) s c.defs rd->WsP (fun s k r=>PT s env k r) rd.1 c.kids rk->PC s env c (rk.1,.mk c.form (JG env c.text) [] rd.2 rk.2))
 (hr:∀(s:σ)(env en:NM)(c:Za)(s1:σ)(to:U Y)(rk:σ×U Term),c.form≠2->bd s env (ZB c.joins) (.cl c)=(s1,to)->en=ext env (ZB c.joins) to ->
   WsP (fun s k r=>PT s en k r) s1 c.kids rk->PC s env c (rk.1,.mk c.form E0 (c.joins.map (Us env en)) [] rk.2)):
 (∀t s env,PT s env t (Wt bd s env t))/\(∀c s env,PC s env c (Wc bd s env c)):=by
 have main:∀n,(∀t,pz (.pr t)<n->∀s env,PT s env t (Wt bd s env t))/\(∀c,pz (.cl c)<n->∀s env,PC s env c (Wc bd s env c)):=by
  intro n
  induction n with
  | zero=>exact⟨fun t h=>absurd h (Nat.not_lt_zero _),fun t h=>absurd h (Nat.not_lt_zero _)⟩
  | succ n ih=>
    have hts:∀(l:U Term),(∀x∈l,pz (.pr x)<n)->∀s env,WsP (fun s k r=>PT s env k r) s l (Wts bd s env l):=by
     intro l
     induction l with
     | nil=>intro _ s env;rw[Zc4];exact .nil
     | cons x l ihl=>intro h s env;rw[ZaJ];exact .cons (ih.1 x (h x (by simp)) s env) (ihl (fun y hy=>h y (Kf _ hy)) _ env)
    have hcs:∀(l:U Za),(∀x∈l,pz (.cl x)<n)->∀s env,WsP (fun s k r=>PC s env k r) s l (Wcs bd s env l):=by
     intro l
     induction l with
     | nil=>intro _ s env;rw[Zfw];exact .nil
     | cons x l ihl=>intro h s env;rw[Zfx];exact .cons (ih.2 x (h x (by simp)) s env) (ihl (fun y hy=>h y (Kf _ hy)) _ env)
    constructor
    ·intro t hn s env;by_cases h4:t.op=4
     ·have hin:inT bd s env t=((bd s env (Qw t.defs) (.pr t)).1,ext env (Qw t.defs) (bd s env (Qw t.defs) (.pr t)).2):=by unfold inT;rw[h4];rfl
      rw[Znz h4,hin];exact hd s env _ t _ _ _ _ h4 rfl rfl (hcs _ (fun x hx=>by have:=Ut (Qq hx);omega) _ _) (hts _ (fun x hx=>by have:=Ut (Xr hx);omega) _ _)
     ·rw[ZhO h4];exact he s env t _ h4 (hts _ (fun x hx=>by have:=Ut (Xr hx);omega) _ _)
    ·intro c hn s env;by_cases h2:c.form=2
     ·rw[Zfy h2];exact hp s env c _ _ h2 (hcs _ (fun x hx=>by have:=Ut (XO hx);omega) _ _) (hts _ (fun x hx=>by have:=Ut (Y3 hx);omega) _ _)
     ·have hin:inC bd s env c=((bd s env (ZB c.joins) (.cl c)).1,ext env (ZB c.joins) (bd s env (ZB c.joins) (.cl c)).2):=by
       unfold inC;have:(c.form==2)=false:=by simpa using h2
       rw[this];rfl
      rw[ZhP h2,hin];exact hr s env _ c _ _ _ h2 rfl rfl (hts _ (fun x hx=>by have:=Ut (Y3 hx);omega) _ _)
 exact⟨fun t=>(main _).1 t (Nat.lt_succ_self _),fun c=>(main _).2 c (Nat.lt_succ_self _)⟩
def Zot:∀(xs:U Y)(h:Y->Z),Zml h xs=true↔xs.Nodup/\∀x∈xs,h x=false
 | [],h=>by simp[Zml]
 | x::xs,h=>by
   rw[Zml,Ba0,Zot xs,GD,Bool.not_eq_true']
   constructor
   ·rintro⟨h1,h2,h3⟩;refine⟨⟨fun hm=>?_,h2⟩,fun y hy=>?_⟩
    ·have:=h3 x hm;rw[Ge]at this;simp at this
    ·rcases Kx.1 hy with rfl|hy
     ·exact h1
     ·have:=h3 y hy;rw[Ge]at this;exact this.1
   ·rintro⟨⟨h1,h2⟩,h3⟩;refine⟨h3 x (by simp),h2,fun y hy=>?_⟩;rw[Ge,decide_eq_false_iff_not];exact⟨h3 y (Kf _ hy),fun e=>h1 (e▸hy)⟩
def ZAk:∀(es:U (Y×ZJ))(f:Y->O ZJ),JW f es=true↔es.Pairwise (fun a b=>a.1=b.1->a.2=b.2)/\∀e∈es,∀v,f e.1=some v->v=e.2
 | [],f=>by simp[JW]
 | e::es,f=>by
   rw[JW,Ba0,ZAk es,List.pairwise_cons]
   have hok:okE f e=true↔∀v,f e.1=some v->v=e.2:=by
    unfold okE;cases hf:f e.1 with
    | none=>simp
    | some v=>simp[eqS]
   rw[hok]
   constructor
   ·rintro⟨h1,h2,h3⟩;refine⟨⟨fun b hb he=>?_,h2⟩,fun b hb v hv=>?_⟩
    ·exact h3 b hb e.2 (by unfold upd;rw[if_pos he.symm])
    ·rcases Kx.1 hb with rfl|hb
     ·exact h1 v hv
     ·by_cases hq:b.1=e.1
      ·have:=h3 b hb e.2 (by unfold upd;rw[if_pos hq]);rw[hq]at hv;rw[h1 v hv,this]
      ·exact h3 b hb v (by unfold upd;rw[if_neg hq];exact hv)
   ·rintro⟨⟨h1,h2⟩,h3⟩;refine⟨h3 e (by simp),h2,fun b hb v hv=>?_⟩;unfold upd at hv;by_cases hq:b.1=e.1
    ·rw[if_pos hq]at hv;cases hv;exact h1 b hb hq.symm
    ·rw[if_neg hq]at hv;exact h3 b (Kf _ hb) v hv
abbrev Sg:=Y×U (Y×Nat)
def mq(m:Z4):Y×Nat:=(m.text,m.names.length)
def sg(sp:Spt):Sg:=(sp.1,(jns sp.2).map mq)
def evS:Nat->U Sg->U (Y×ZJ)
 | _,[]=>[]
 | a,g::r=>g.2.map (fun q=>(q.1,(⟨(a:Int),(q.2:Int)⟩:ZJ)))++evS (a+1) r
def ZtL:∀(l:U Spt)(a:Nat),evJ a l=evS a (l.map sg)
 | [],a=>rfl
 | sp::l,a=>by
   rw[evJ,G8,evS,ZtL l];unfold sg;rw[Gd]
   rfl
def AgS(g:U Sg):Prop:=((g.drop 1).map (·.1)).Nodup/\(evS 0 g).Pairwise (fun a b=>a.1=b.1->a.2=b.2)/\∀e∈evS 0 g,e.1∉(g.drop 1).map (·.1)
def sgs(l:U Za):U Sg:=((E0,l)::l.flatMap X0).map sg
def ZkU(l:U Za):(sgs l).drop 1=(l.flatMap X0).map sg:=rfl
def Zug(l:U Za):AgW l=true↔AgS (sgs l):=by
 unfold AgW AgS;rw[Ba0,Ba0,Zot,ZAk,ZtL,Bool.not_eq_true',List.any_eq_false,ZkU];have e:((l.flatMap X0).map sg).map (·.1)=KR l:=by unfold KR;rw[Gd];rfl
 rw[e]
 constructor
 ·rintro⟨⟨⟨h1,_⟩,⟨h2,_⟩⟩,h3⟩;exact⟨h1,h2,fun x hx=>by have:=h3 x hx;simpa using this⟩
 ·rintro⟨h1,h2,h3⟩;exact⟨⟨⟨h1,fun _ _=>rfl⟩,h2,fun _ _ _ z=>by cases z⟩,fun x hx=>by simpa using h3 x hx⟩
def rnS(f:Y->Y)(g:Sg):Sg:=(f g.1,g.2.map fun q=>(f q.1,q.2))
def Zzi(f:Y->Y):∀(l:U Sg)(a:Nat),evS a (l.map (rnS f))=(evS a l).map fun e=>(f e.1,e.2)
 | [],a=>rfl
 | g::l,a=>by
   rw[G8,evS,evS,Zzi f l,GS,Gd];unfold rnS;rw[Gd]
   rfl
def txS(g:U Sg):U Y:=(g.drop 1).map (·.1)++(evS 0 g).map (·.1)
def Zdm{f:Y->Y}{l:U Y}(h:l.Nodup)(hi:∀x∈l,∀y∈l,f x=f y->x=y):(l.map f).Nodup:=by
 rw[List.nodup_iff_pairwise_ne,List.pairwise_map];rw[List.nodup_iff_pairwise_ne]at h;refine h.imp_of_mem fun ha hb hab e=>hab (hi _ ha _ hb e)
def ZIx{f:Y->Y}{g0:Sg}{g:U Sg}(hi:∀x∈txS (g0::g),∀y∈txS (g0::g),f x=f y->x=y)(h:AgS (g0::g)):AgS ((g0.1,g0.2.map fun q=>(f q.1,q.2))::g.map (rnS f)):=by
 obtain⟨h1,h2,h3⟩:=h
 have hev:evS 0 ((g0.1,g0.2.map fun q=>(f q.1,q.2))::g.map (rnS f))=(evS 0 (g0::g)).map fun e=>(f e.1,e.2):=by
  have:=Zzi f (g0::g) 0;rw[<-this,G8]
  rfl
 have hn:(((g0.1,g0.2.map fun q=>(f q.1,q.2))::g.map (rnS f)).drop 1).map (·.1)=(((g0::g).drop 1).map (·.1)).map f:=by
  show(g.map (rnS f)).map (·.1)=(g.map (·.1)).map f;rw[Gd,Gd];rfl
 have m1:∀x∈((g0::g).drop 1).map (·.1),x∈txS (g0::g):=fun x hx=>Gf _ hx
 have m2:∀e∈evS 0 (g0::g),e.1∈txS (g0::g):=fun e he=>G4 _ (Gp he)
 unfold AgS;rw[hev,hn];refine⟨Zdm h1 fun x hx y hy=>hi x (m1 x hx) y (m1 y hy),?_,?_⟩
 ·rw[List.pairwise_map];exact h2.imp_of_mem fun{a b} ha hb hab e=>hab (hi _ (m2 a ha) _ (m2 b hb) e)
 ·intro e he hm;obtain⟨e0,he0,rfl⟩:=G3.1 he;obtain⟨x,hx,hxe⟩:=G3.1 hm;have:=hi _ (m1 x hx) _ (m2 e0 he0) hxe;exact h3 e0 he0 (this▸hx)
def ded:U Y->U Y->U Y
 | acc,[]=>acc
 | acc,x::l=>ded (if x∈acc then acc else acc++[x]) l
def ZtP:∀(l:U Y)(s:CH),(∀x,has s.2 x=decide (x∈s.1))->(l.foldl dj s).1=ded s.1 l
 | [],s,_=>rfl
 | y::l,s,h=>by
   rw[Gn,ded]
   have hs:∀z,has (dj s y).2 z=decide (z∈(dj s y).1):=fun z=>by
    unfold dj;cases hz:has s.2 y
    ·simp only[Cq0];rw[Zaz];show(has s.2 z||decide (z=y))=decide (z∈s.1++[y]);rw[h z];by_cases h1:z∈s.1<;>by_cases h2:z=y<;>simp[h1,h2]
    ·exact h z
   rw[ZtP l _ hs];have hy:=h y;unfold dj;by_cases hm:y∈s.1
   ·rw[hy,decide_eq_true hm,if_pos hm];rfl
   ·rw[hy,decide_eq_false hm,if_neg hm];rfl
def ZrS{f:Y->Y}:∀(l acc:U Y),(∀x∈acc++l,∀y∈acc++l,f x=f y->x=y)->ded (acc.map f) (l.map f)=(ded acc l).map f
 | [],acc,_=>rfl
 | x::l,acc,hi=>by
   rw[G8,ded,ded]
   have e:f x∈acc.map f↔x∈acc:=by
    rw[G3]
    constructor
    ·rintro⟨y,hy,h⟩;rw[<-hi y (by simp[hy]) x (by simp) h];exact hy
    ·exact fun h=>⟨x,h,rfl⟩
   by_cases hx:x∈acc
   ·rw[if_pos hx,if_pos (e.2 hx)];exact ZrS l acc fun a ha b hb=>hi a (by rw[Q1]at ha ⊢;rcases ha with h|h<;>simp[h]) b (by rw[Q1]at hb ⊢;rcases hb with h|h<;>simp[h])
   ·rw[if_neg hx,if_neg fun z=>hx (e.1 z)];have:=ZrS l (acc++[x]) fun a ha b hb=>hi a (by simpa using ha) b (by simpa using hb)
    rw[GS,G8,List.map_nil]at this;exact this
def ZcZ:∀(l acc:U Y),acc.Nodup->(ded acc l).Nodup/\∀x,x∈ded acc l↔x∈acc\/x∈l
 | [],acc,h=>⟨h,fun x=>by simp[ded]⟩
 | y::l,acc,h=>by
   rw[ded];by_cases hy:y∈acc
   ·rw[if_pos hy];obtain⟨a,b⟩:=ZcZ l acc h;refine⟨a,fun x=>(b x).trans ?_⟩;rw[Kx];exact⟨fun z=>z.imp id .inr,fun z=>z.elim .inl fun z=>z.elim (fun e=>.inl (e▸hy)) .inr⟩
   ·rw[if_neg hy]
    obtain⟨a,b⟩:=ZcZ l (acc++[y]) (by
     rw[List.nodup_append];exact⟨h,by simp,fun a ha b hb e=>hy (by rw[G6.1 hb]at e;exact e▸ha)⟩)
    refine⟨a,fun x=>(b x).trans ?_⟩;rw[Q1,G6,Kx]
    constructor
    ·rintro((h|h) | h)
     ·exact .inl h
     ·exact .inr (.inl h)
     ·exact .inr (.inr h)
    ·rintro(h|h|h)
     ·exact .inl (.inl h)
     ·exact .inl (.inr h)
     ·exact .inr h
def dnS(g:U Sg):U Y:=ded [] (g.flatMap fun q=>q.2.map (·.1))++(g.drop 1).map (·.1)
def ZhH(l:U Za):Qw l=dnS (sgs l):=by
 unfold Qw Zdc dnS;rw[ZtP _ ([],[]) fun x=>rfl,ZkU]
 have e1:((E0,l)::l.flatMap X0).flatMap (fun sp=>(jns sp.2).map (·.text))=(sgs l).flatMap fun q=>q.2.map (·.1):=by
  unfold sgs;rw[List.flatMap_map];refine congrArg (fun f=>List.flatMap f ((E0,l)::l.flatMap X0)) (funext fun sp=>?_);unfold sg;rw[Gd];rfl
 have e2:((l.flatMap X0).map sg).map (·.1)=KR l:=by unfold KR;rw[Gd];rfl
 rw[e1,e2]
def ZaC:∀(g:U Sg)(a:Nat),(evS a g).map (·.1)=g.flatMap fun q=>q.2.map (·.1)
 | [],a=>rfl
 | q::g,a=>by
   rw[evS,GS,ZaC g,Kd,Gd];rfl
def ZBt(g:U Sg)(x:Y):x∈dnS g↔x∈txS g:=by
 unfold dnS txS;rw[Q1,(ZcZ _ [] List.nodup_nil).2,Q1,ZaC];simp only[Gi,false_or];exact Or.comm
def Zvl{g:U Sg}(h:AgS g):(dnS g).Nodup:=by
 obtain⟨h1,_,h3⟩:=h;unfold dnS;rw[List.nodup_append];obtain⟨a,b⟩:=ZcZ (g.flatMap fun q=>q.2.map (·.1)) [] List.nodup_nil;refine⟨a,h1,fun x hx y hy e=>?_⟩;subst e;have:=(b x).1 hx;rw[<-ZaC g 0]at this;simp only[Gi,false_or]at this;obtain⟨ev,hev,rfl⟩:=G3.1 this;exact h3 ev hev hy
def ZHL{f:Y->Y}{g0:Sg}{g:U Sg}(hi:∀x∈txS (g0::g),∀y∈txS (g0::g),f x=f y->x=y):dnS ((g0.1,g0.2.map fun q=>(f q.1,q.2))::g.map (rnS f))=(dnS (g0::g)).map f:=by
 unfold dnS
 have e1:((g0.1,g0.2.map fun q=>(f q.1,q.2))::g.map (rnS f)).flatMap (fun q=>q.2.map (·.1))=((g0::g).flatMap fun q=>q.2.map (·.1)).map f:=by
  rw[Kd,Kd,List.flatMap_map,GS,List.map_flatMap];refine congr (congrArg _ ?_) (congrArg (fun k=>List.flatMap k g) (funext fun q=>?_))
  ·rw[Gd,Gd];rfl
  ·unfold rnS;rw[Gd,Gd];rfl
 have e2:(((g0.1,g0.2.map fun q=>(f q.1,q.2))::g.map (rnS f)).drop 1).map (·.1)=(((g0::g).drop 1).map (·.1)).map f:=by
  show(g.map (rnS f)).map (·.1)=(g.map (·.1)).map f;rw[Gd,Gd];rfl
 have e3:=ZrS (f:=f) ((g0::g).flatMap fun q=>q.2.map (·.1)) [] fun x hx y hy=>hi x (G4 _ (by rw[ZaC];simpa using hx)) y (G4 _ (by rw[ZaC];simpa using hy))
 rw[e1,e2,GS,<-e3,List.map_nil]
inductive Al{α β:Type}(R:α->β->Prop):List α->List β->Prop
 | nil:Al R [] []
 | cons {a:α} {b:β} {l:List α} {m:List β} (h:R a b) (t:Al R l m):Al R (a::l) (b::m)
def Al.len{α β:Type}{R:α->β->Prop}{l:U α}{m:U β}(h:Al R l m):m.length=l.length:=by
 induction h with
 | nil=>rfl
 | cons _ _ ih=>rw[KK,KK,ih]
def Al.right{α β:Type}{R:α->β->Prop}{l:U α}{m:U β}(h:Al R l m):∀y∈m,∃x∈l,R x y:=by
 induction h with
 | nil=>intro y hy;cases hy
 | cons h t ih=>
   intro y hy;rcases Kx.1 hy with rfl|hy
   ·exact⟨_,Gs,h⟩
   ·obtain⟨x,hx,hr⟩:=ih y hy;exact⟨x,Kf _ hx,hr⟩
def Al.map{α β γ:Type}{R:α->β->Prop}{l:U α}{m:U β}{f:α->γ}{g:β->γ}(h:Al R l m)(e:∀x y,R x y->g y=f x):m.map g=l.map f:=by
 induction h with
 | nil=>rfl
 | cons h t ih=>rw[G8,G8,ih,e _ _ h]
def Al.flat{α β γ:Type}{R:α->β->Prop}{l:U α}{m:U β}{f:α->U γ}{g:β->U γ}(h:Al R l m)(e:∀x y,R x y->g y=f x):m.flatMap g=l.flatMap f:=by
 induction h with
 | nil=>rfl
 | cons h t ih=>rw[Kd,Kd,ih,e _ _ h]
abbrev ln(p:Part):Nat:=(pre p).length
def ZoE(p:Part):ln p=((ZM p).map ln).sum+1:=by
 unfold ln;rw[pre_eq,KK,List.length_flatMap]
def ZsZ(t:Term):ln (.pr t)=(t.args.map fun a=>ln (.ex a)).sum+(t.defs.map fun a=>ln (.cl a)).sum+(t.kids.map fun a=>ln (.pr a)).sum+1:=by
 rw[ZoE];simp only[ZM,GS,Gd,List.sum_append]
 rfl
def Zs0(c:Za):ln (.cl c)=(c.defs.map fun a=>ln (.cl a)).sum+(c.kids.map fun a=>ln (.pr a)).sum+1:=by
 rw[ZoE];simp only[ZM,GS,Gd,List.sum_append]
 rfl
def Zzq(t:Term):dep (.pr t)=max (max (WW (t.args.map fun a=>dep (.ex a))) (WW (t.defs.map fun a=>dep (.cl a)))) (WW (t.kids.map fun a=>dep (.pr a)))+1:=by
 rw[Zd2];simp only[ZM,GS,Gd,ZgW]
 rfl
def Zzr(c:Za):dep (.cl c)=max (WW (c.defs.map fun a=>dep (.cl a))) (WW (c.kids.map fun a=>dep (.pr a)))+1:=by
 rw[Zd2];simp only[ZM,GS,Gd,ZgW]
 rfl
def YQ{f:Part->Z}(p:Part):(pre p).all f=true↔f p=true/\∀k∈ZM p,(pre k).all f=true:=by
 rw[pre_eq,List.all_cons,Ba0,Ks];refine and_congr Iff.rfl ⟨fun h k hk=>Ks.2 fun x hx=>h x (Q3.2 ⟨k,hk,hx⟩),fun h x hx=>?_⟩;obtain⟨k,hk,hx⟩:=Q3.1 hx;exact Ks.1 (h k hk) x hx
def ZsX:∀(l:U Y)(h:Y->Z),nWb h l=true↔(∀x∈l,Xl x=true/\h x=false)/\l.Nodup
 | [],h=>by simp[nWb]
 | x::l,h=>by
   rw[nWb,Ba0,Ba0,ZsX l,GD,Bool.not_eq_true']
   constructor
   ·rintro⟨⟨a,b⟩,c,d⟩;refine⟨fun y hy=>?_,fun hm=>?_,d⟩
    ·rcases Kx.1 hy with rfl|hy
     ·exact⟨a,b⟩
     ·have:=c y hy;rw[Ge]at this;exact⟨this.1,this.2.1⟩
    ·have:=(c x hm).2;rw[Ge]at this;simp at this
   ·rintro⟨a,b,c⟩;refine⟨a x (by simp),fun y hy=>?_,c⟩;obtain⟨p,q⟩:=a y (Kf _ hy);refine⟨p,?_⟩;rw[Ge,decide_eq_false_iff_not];exact⟨q,fun e=>b (e▸hy)⟩
def Zmu:∀(js:U Z4)(ht hn:Y->Z),jW ht hn js=true↔(∀m∈js,Xl m.text=true/\ht m.text=false/\m.names.length<=3/\∀x∈m.names,Xl x=true/\hn x=false)/\(js.map (·.text)).Nodup/\(ZB js).Nodup
 | [],ht,hn=>by simp[jW,ZB]
 | m::js,ht,hn=>by
   have e:ZB (m::js)=m.names++ZB js:=rfl;rw[jW,Ba0,Ba0,Ba0,Ba0,ZsX,Zmu js,Bool.not_eq_true',decide_eq_true_iff,G8,GD,e,List.nodup_append]
   constructor
   ·rintro⟨⟨⟨a1,a2⟩,a3⟩,⟨b1,b2⟩,c1,c2,c3⟩;refine⟨fun y hy=>?_,⟨fun hm=>?_,c2⟩,b2,c3,fun x hx y hy exy=>?_⟩
    ·rcases Kx.1 hy with rfl|hy
     ·exact⟨a1,a2,a3,b1⟩
     ·obtain⟨d1,d2,d3,d4⟩:=c1 y hy;rw[Ge]at d2;exact⟨d1,d2.1,d3,fun x hx=>by have:=d4 x hx;rw[Ge]at this;exact⟨this.1,this.2.1⟩⟩
    ·obtain⟨y,hy,ey⟩:=G3.1 hm;have:=(c1 y hy).2.1;rw[Ge,decide_eq_false_iff_not]at this;exact this.2 ey
    ·subst exy;obtain⟨z,hz,hxz⟩:=Q3.1 hy;have:=((c1 z hz).2.2.2 x hxz).2;rw[Ge,decide_eq_false_iff_not]at this;exact this.2 hx
   ·rintro⟨a,⟨b1,b2⟩,c1,c2,c3⟩;obtain⟨d1,d2,d3,d4⟩:=a m (by simp);refine⟨⟨⟨d1,d2⟩,d3⟩,⟨d4,c1⟩,fun y hy=>?_,b2,c2⟩;obtain⟨e1,e2,e3,e4⟩:=a y (Kf _ hy);refine⟨e1,?_,e3,fun x hx=>?_⟩
    ·rw[Ge,decide_eq_false_iff_not];exact⟨e2,fun z=>b1 (G3.2 ⟨y,hy,z⟩)⟩
    ·rw[Ge,decide_eq_false_iff_not];exact⟨(e4 x hx).1,(e4 x hx).2,fun z=>c3 x z x (Q3.2 ⟨y,hy,hx⟩) rfl⟩
def NmE(env:NM):Prop:=∀x e,ZP env x=some e->∃y,e=nam y/\Xl y=true
def ZDn:NmE []:=fun x e h=>by cases h
def Zt9{env:NM}(h:NmE env){l to:U Y}(hl:l.length=to.length)(ht:∀y∈to,Xl y=true):NmE (ext env l to):=fun x e he=>by
 rcases ext_get hl env x with⟨_,y,hy,g⟩|⟨_,g⟩
 ·rw[g]at he;cases he;exact⟨y,rfl,ht y hy⟩
 ·rw[g]at he;exact h x e he
def Zem{env:NM}(h:NmE env){x:Y}(hx:Xl x=true):Xl (JG env x)=true:=by
 unfold JG;cases e:ZP env x with
 | none=>exact hx
 | some v=>
   obtain⟨y,rfl,hy⟩:=h x v e;exact hy
def Zox:Xl E0=false:=rfl
def ZnX{env:NM}(h:NmE env){x:Y}(hx:Xl x=true):Xl (tx0 env x)=true:=by
 unfold tx0;rw[if_neg fun e=>by rw[e,Zox]at hx;cases hx];exact Zem h hx
def ZAF{l to:U Y}:∀(h:l.Nodup){i:Nat}{x y:Y},l[i]? =some x->to[i]? =some y->ZP ((l.zip to).map fun p=>(p.1,nam p.2)).reverse x=some (nam y):=by
 induction l generalizing to with
 | nil=>intro _ i x y h;cases h
 | cons a l ih=>
   intro hn i x y hx hy;rw[GD]at hn;cases to with
   | nil=>cases hy
   | cons b to=>
     rw[List.zip_cons_cons,G8,List.reverse_cons,Zas];cases i with
     | zero=>
       simp only[List.getElem?_cons_zero,Q4]at hx hy;subst hx hy
       have:ZP ((l.zip to).map fun p=>(p.1,nam p.2)).reverse a=none:=by
        cases e:ZP ((l.zip to).map fun p=>(p.1,nam p.2)).reverse a with
        | none=>rfl
        | some v=>
          have:=ZbR e;rw[List.mem_reverse,G3]at this;obtain⟨q,hq,e2⟩:=this;have h1:=(List.of_mem_zip hq).1;cases e2;exact absurd h1 hn.1
       rw[this,ZcK,if_pos rfl]
     | succ i=>
       simp only[List.getElem?_cons_succ]at hx hy;rw[ih hn.2 hx hy]
def ZqK{env:NM}{l to:U Y}(hn:l.Nodup){i:Nat}{x y:Y}(hx:l[i]? =some x)(hy:to[i]? =some y):ZP (ext env l to) x=some (nam y)/\JG (ext env l to) x=y:=by
 have g:ZP (ext env l to) x=some (nam y):=by
  unfold ext;rw[Zas,ZAF hn hx hy]
 refine⟨g,?_⟩;unfold JG;rw[g];rfl
def ZsF{env:NM}{l to:U Y}(hn:l.Nodup)(hl:l.length=to.length):l.map (JG (ext env l to))=to:=by
 refine GF fun i=>?_
 rw[GC];by_cases hi:i<l.length
 ·have hx:=J1 hi;have hy:=J1 (show i<to.length by omega);rw[hx,hy];exact congrArg some (ZqK hn hx hy).2
 ·rw[Jn V6,Jn V6];rfl
def ZAU{env:NM}{l to:U Y}(hn:l.Nodup)(ht:to.Nodup)(hl:l.length=to.length):∀x∈l,∀y∈l,JG (ext env l to) x=JG (ext env l to) y->x=y:=by
 intro x hx y hy e;obtain⟨i,hi,ei⟩:=List.getElem_of_mem hx;obtain⟨j,hj,ej⟩:=List.getElem_of_mem hy;have a:=(ZqK (env:=env) (to:=to) hn (i:=i) (x:=x) (y:=to[i]'V6) (by rw[J1 hi,ei]) (J1 _)).2;have b:=(ZqK (env:=env) (to:=to) hn (i:=j) (x:=y) (y:=to[j]'V6) (by rw[J1 hj,ej]) (J1 _)).2;rw[a,b]at e;have:=(List.getElem_inj ht).1 e;subst this;rw[<-ei,<-ej]
structure OKE(e u:Zg):Prop where
 Uq:(pre (.ex u)).all Uq=true
 len:ln (.ex u)=ln (.ex e)
 dep:dep (.ex u)=dep (.ex e)
structure OKT(t u:Term):Prop where
 Uq:(pre (.pr u)).all Uq=true
 agr:(pre (.pr u)).all (Zdd AgW)=true
 len:ln (.pr u)=ln (.pr t)
 dep:dep (.pr u)=dep (.pr t)
structure OKC(f:ByteArray->ByteArray)(c d:Za):Prop where
 Uq:(pre (.cl d)).all Uq=true
 agr:(pre (.cl d)).all (Zdd AgW)=true
 len:ln (.cl d)=ln (.cl c)
 dep:dep (.cl d)=dep (.cl c)
 jq:d.joins.map mq=c.joins.map fun m=>(f m.text,m.names.length)
 pl:(X0 d).map sg=(X0 c).map fun sp=>rnS f (sg sp)
def ZtJ{e:Zg}(h:e.kids=[]):ln (.ex e)=1/\dep (.ex e)=1:=by
 rw[ZoE,Zd2];simp[ZM,h,WW]
def ZHB{env:NM}(hE:NmE env):∀n e,ln (.ex e)<=n->(pre (.ex e)).all Uq=true->OKE e (Ka env e)/\(e.op=2->(Ka env e).kids=[]):=by
 intro n
 induction n with
 | zero=>intro e h;have:=Xd (.ex e);unfold ln at h;omega
 | succ n ih=>
   intro e hn hs;have hsE:Wl e=true:=((YQ _).1 hs).1;rw[ZjG];cases h2:e.op==2 with
   | true=>
     have h2':e.op=2:=by simpa using h2
     rw[Cq1]
     have hk:e.kids=[]:=by
      unfold Wl at hsE;rw[h2']at hsE;simp only[Int.reduceBEq,Cq1,Cq0,Ba0,beq_iff_eq]at hsE;exact G9 hsE.2
     cases hm:ZP env e.text with
     | none=>exact⟨⟨hs,rfl,rfl⟩,fun _=>hk⟩
     | some v=>
       obtain⟨y,rfl,hy⟩:=hE _ v hm;show OKE e (nam y)/\_;obtain⟨a1,a2⟩:=ZtJ hk;obtain⟨b1,b2⟩:=ZtJ (e:=nam y) rfl;refine⟨⟨?_,by rw[a1,b1],by rw[a2,b2]⟩,fun _=>rfl⟩;rw[YQ];refine⟨?_,fun k hk=>by cases hk⟩;show Wl (nam y)=true;unfold Wl nam;simp only[Int.reduceBEq,Cq1,Cq0,hy]
       rfl
   | false=>
     rw[Cq0];have hk:∀k∈e.kids,OKE k (Ka env k):=fun k hk=>(ih k (by have:=Yb (XC hk);unfold ln at hn ⊢;omega) (((YQ _).1 hs).2 _ (XC hk))).1
     refine⟨⟨?_,?_,?_⟩,fun z=>by rw[z]at h2;cases h2⟩
     ·rw[YQ]
      constructor
      ·show Wl _=true;unfold Wl at hsE ⊢;simp only[Gc];rw[h2]at hsE ⊢;exact hsE
      ·intro k hk';simp only[ZM,Gd,G3]at hk';obtain⟨x,hx,rfl⟩:=hk';exact(hk x hx).Uq
     ·rw[ZoE,ZoE (.ex e)];simp only[ZM,Gd];exact congrArg (fun l=>List.sum l+1) (Gt fun x hx=>(hk x hx).len)
     ·rw[Zd2,Zd2 (.ex e)];simp only[ZM,Gd];exact congrArg (fun l=>WW l+1) (Gt fun x hx=>(hk x hx).dep)
def ZAf{t:Term}{tx:Y}{ar:U Zg}{ds:U Za}{ks:U Term}{f:Y->Y}(h1:K8 (.mk t.op tx ar ds ks)=true)(h2:Zdd AgW (.pr (.mk t.op tx ar ds ks))=true)
 (ha:Al OKE t.args ar) (hd:Al (OKC f) t.defs ds) (hk:Al OKT t.kids ks):OKT t (.mk t.op tx ar ds ks):=by
 constructor
 ·rw[YQ];refine⟨h1,fun k h=>?_⟩;simp only[ZM,Q1,G3]at h;rcases h with(⟨x,hx,rfl⟩|⟨x,hx,rfl⟩) | ⟨x,hx,rfl⟩
  ·obtain⟨y,_,r⟩:=ha.right x hx;exact r.Uq
  ·obtain⟨y,_,r⟩:=hd.right x hx;exact r.Uq
  ·obtain⟨y,_,r⟩:=hk.right x hx;exact r.Uq
 ·rw[YQ];refine⟨h2,fun k h=>?_⟩;simp only[ZM,Q1,G3]at h;rcases h with(⟨x,hx,rfl⟩|⟨x,hx,rfl⟩) | ⟨x,hx,rfl⟩
  ·exact Ks.2 fun q hq=>by
    have:∀n (e:Zg),ln (.ex e)<=n->∀q∈pre (.ex e),∃y,q=.ex y:=by
     intro n
     induction n with
     | zero=>intro e h;have:=Xd (.ex e);unfold ln at h;omega
     | succ n ih=>
       intro e hn q hq;rw[pre_eq]at hq;rcases Kx.1 hq with rfl|hq
       ·exact⟨e,rfl⟩
       ·obtain⟨k,hk,hq⟩:=Q3.1 hq;obtain⟨y,hy,rfl⟩:=G3.1 hk;exact ih y (by have:=Yb (XC hy);unfold ln at hn ⊢;omega) q hq
    obtain⟨y,rfl⟩:=this _ x V7 q hq
    rfl
  ·obtain⟨y,_,r⟩:=hd.right x hx;exact r.agr
  ·obtain⟨y,_,r⟩:=hk.right x hx;exact r.agr
 ·rw[ZsZ,ZsZ t];show(ar.map fun a=>ln (.ex a)).sum+(ds.map fun a=>ln (.cl a)).sum+(ks.map fun a=>ln (.pr a)).sum+1=_;rw[ha.map (f:=fun a=>ln (.ex a)) fun x y r=>r.len,hd.map (f:=fun a=>ln (.cl a)) fun x y r=>r.len,hk.map (f:=fun a=>ln (.pr a)) fun x y r=>r.len]
 ·rw[Zzq,Zzq t];show max (max (WW (ar.map fun a=>dep (.ex a))) (WW (ds.map fun a=>dep (.cl a)))) (WW (ks.map fun a=>dep (.pr a)))+1=_;rw[ha.map (f:=fun a=>dep (.ex a)) fun x y r=>r.dep,hd.map (f:=fun a=>dep (.cl a)) fun x y r=>r.dep,hk.map (f:=fun a=>dep (.pr a)) fun x y r=>r.dep]
def ZAg{c:Za}{fm:Int}{tx:Y}{js:U Z4}{ds:U Za}{ks:U Term}{f g:Y->Y}(h1:UD (.mk fm tx js ds ks)=true)
 (hd:Al (OKC g) c.defs ds) (hk:Al OKT c.kids ks) (hj:js.map mq=c.joins.map fun m=>(f m.text,m.names.length)) (hp:(X0 (.mk fm tx js ds ks)).map sg=(X0 c).map fun sp=>rnS f (sg sp)):OKC f c (.mk fm tx js ds ks):=by
 constructor
 ·rw[YQ];refine⟨h1,fun k h=>?_⟩;simp only[ZM,Q1,G3]at h;rcases h with⟨x,hx,rfl⟩|⟨x,hx,rfl⟩
  ·obtain⟨y,_,r⟩:=hd.right x hx;exact r.Uq
  ·obtain⟨y,_,r⟩:=hk.right x hx;exact r.Uq
 ·rw[YQ];refine⟨rfl,fun k h=>?_⟩;simp only[ZM,Q1,G3]at h;rcases h with⟨x,hx,rfl⟩|⟨x,hx,rfl⟩
  ·obtain⟨y,_,r⟩:=hd.right x hx;exact r.agr
  ·obtain⟨y,_,r⟩:=hk.right x hx;exact r.agr
 ·rw[Zs0,Zs0 c];show(ds.map fun a=>ln (.cl a)).sum+(ks.map fun a=>ln (.pr a)).sum+1=_;rw[hd.map (f:=fun a=>ln (.cl a)) fun x y r=>r.len,hk.map (f:=fun a=>ln (.pr a)) fun x y r=>r.len]
 ·rw[Zzr,Zzr c];show max (WW (ds.map fun a=>dep (.cl a))) (WW (ks.map fun a=>dep (.pr a)))+1=_;rw[hd.map (f:=fun a=>dep (.cl a)) fun x y r=>r.dep,hk.map (f:=fun a=>dep (.pr a)) fun x y r=>r.dep]
 ·exact hj
 ·exact hp
def ZsH{t:Term}(h:K8 t=true){env:NM}(hE:NmE env){ar:U Zg}{ds:U Za}{ks:U Term}(ha:ar.length=t.args.length)(hd:ds.length=t.defs.length)(hk:ks.length=t.kids.length):K8 (.mk t.op (tx0 env t.text) ar ds ks)=true:=by
 unfold K8 szs at h ⊢;simp only[ha,hd,hk];rw[Ba0]at h ⊢;refine⟨h.1,?_⟩;have h2:=h.2;cases hb:((t.op==2)||(t.op==6))||(t.op==8)<;>rw[hb]at h2
 ·simp only[Cq0,decide_eq_true_eq]at h2 ⊢;rw[h2];unfold tx0;rw[if_pos rfl]
 ·simp only[Cq1]at h2 ⊢;exact ZnX hE h2
def nt(e:Evt):O Y:=if e.1∈e.2 then none else some e.1
def fv(p:Part)(B:U Y):U Y:=(JY p B).filterMap nt
def fvN(B l:U Y):U Y:=l.filter fun s=>!decide (s∈B)
def Zru(B:U Y):∀l:U Y,(l.map fun s=>((s,B):Evt)).filterMap nt=fvN B l
 | []=>rfl
 | x::l=>by
   have ih:=Zru B l;unfold fvN at ih ⊢;rw[G8,List.filterMap_cons,List.filter_cons,ih];unfold nt;by_cases h:x∈B
   ·simp[h]
   ·simp[h]
def ZeS{α:Type}(f:α->U Evt):∀l:U α,(l.flatMap f).filterMap nt=l.flatMap fun a=>(f a).filterMap nt
 | []=>rfl
 | x::l=>by rw[Kd,Kd,List.filterMap_append,ZeS f l]
def Zrv(B l r:U Y):fvN B (l++r)=fvN B l++fvN B r:=List.filter_append ..
def ZaA{α:Type}(B:U Y)(f:α->U Y):∀l:U α,fvN B (l.flatMap f)=l.flatMap fun a=>fvN B (f a)
 | []=>rfl
 | x::l=>by rw[Kd,Kd,Zrv,ZaA B f l]
def Zln(t:Term)(B:U Y):fv (.pr t) B=(if t.text=E0 then [] else fvN B [t.text])++fvN B (t.args.flatMap nmE)++(t.defs.flatMap (fun c=>fv (.cl c) (bnd t B))++t.kids.flatMap (fun k=>fv (.pr k) (bnd t B))):=by
 unfold fv;rw[Zm1,List.filterMap_append,List.filterMap_append,List.filterMap_append,ZeS,ZeS,Zru];by_cases h:t.text=E0
 ·rw[if_pos h,if_pos h];rfl
 ·rw[if_neg h,if_neg h,<-Zru B [t.text]];rfl
def Zlo(c:Za)(B:U Y):fv (.cl c) B=c.defs.flatMap (fun d=>fv (.cl d) B)++c.kids.flatMap (fun k=>fv (.pr k) (B++ZB c.joins)):=by
 unfold fv;rw[ZjK,List.filterMap_append,ZeS,ZeS]
def Zq2(l:U Y)(fr:MB):MB:=l.foldl (fun fr x=>YT fr x true) fr
def ZcE:∀(l:U Evt)(fr:MB),Y8 l fr=Zq2 (l.filterMap nt) fr
 | [],fr=>rfl
 | e::l,fr=>by
   show Y8 l (note fr e.2 e.1)=_;rw[ZcE l,List.filterMap_cons];unfold note nt;by_cases h:e.1∈e.2
   ·rw[if_pos h,if_pos h]
   ·rw[if_neg h,if_neg h];rfl
def Zwj(t:Term):tk0 t=Zq2 (fv (.pr t) []) []:=ZcE _ _
def Zyn{t u:Term}(h:fv (.pr u) []=fv (.pr t) []):Zdp u=Zdp t:=by
 unfold Zdp;rw[<-ZdF,<-ZdF,ZcE,ZcE];exact congrArg (fun l=>Zak (Zq2 l [])) h
structure EC(K0:List ByteArray)(env:NM)(B B':List ByteArray):Prop where
 b:∀x,x∈B↔(ZP env x).isSome=true
 i:∀x∈B,JG env x∈B'
 o:∀y∈B',y∉K0
def ZIt(K0:U Y):EC K0 [] [] []:=⟨fun x=>(by simp[ZP,Yk]),fun x hx=>(by cases hx),fun x hx=>(by cases hx)⟩
def EC.ext{K0:U Y}{env:NM}{B B':U Y}(h:EC K0 env B B'){l to:U Y}(hl:l.length=to.length)(ht:∀y∈to,y∉K0):EC K0 (ext env l to) (B++l) (B'++to):=by
 refine⟨fun x=>?_,fun x hx=>?_,fun y hy=>?_⟩
 ·rw[Q1,h.b x];rcases ext_get hl env x with⟨h1,y,_,hy⟩|⟨h1,hy⟩
  ·rw[hy];simp[h1]
  ·rw[hy];simp[h1]
 ·rcases ext_get hl env x with⟨h1,y,hm,hy⟩|⟨h1,hy⟩
  ·have:JG (Go.Proofs.YtbnepjakjmnadaaGreat.ext env l to) x=y:=by unfold JG;rw[hy];rfl
   rw[this];exact G4 _ hm
  ·have:JG (Go.Proofs.YtbnepjakjmnadaaGreat.ext env l to) x=JG env x:=by unfold JG;rw[hy]
   rw[this];exact Gf _ (h.i x ((Q1.1 hx).resolve_right h1))
 ·rcases Q1.1 hy with hy|hy
  ·exact h.o y hy
  ·exact ht y hy
def EC.one{K0:U Y}{env:NM}{B B':U Y}(h:EC K0 env B B'){x:Y}(hx:∀y∈fvN B [x],y∈K0):fvN B' [JG env x]=fvN B [x]:=by
 by_cases hb:x∈B
 ·have:=h.i x hb;unfold fvN;simp[hb,this]
 ·have hn:ZP env x=none:=by
   cases e:ZP env x with
   | none=>rfl
   | some v=>exact absurd ((h.b x).2 (by rw[e];rfl)) hb
  have e:JG env x=x:=by unfold JG;rw[hn]
  have hk:x∈K0:=hx x (by unfold fvN;simp[hb]);have hb':x∉B':=fun z=>h.o x z hk
  rw[e];unfold fvN;simp[hb,hb']
def Ziw{e:Zg}(h2:e.op=2)(hk:e.kids=[]):nmE e=[e.text]:=by rw[Zix,h2,hk];rfl
def Zzf{e:Zg}(hs:Wl e=true)(h2:e.op=2):e.kids=[]:=by
 unfold Wl at hs;rw[h2]at hs;simp only[Int.reduceBEq,Cq1,Cq0,Ba0,beq_iff_eq]at hs;exact G9 hs.2
def Zje{α β:Type}{l:U α}{f g:α->U β}(h:∀x∈l,f x=g x):l.flatMap f=l.flatMap g:=by
 induction l with
 | nil=>rfl
 | cons x l ih=>rw[Kd,Kd,h x (by simp),ih fun y hy=>h y (Kf _ hy)]
def EC.exp{K0:U Y}{env:NM}{B B':U Y}(h:EC K0 env B B')(hE:NmE env):∀n e,ln (.ex e)<=n->(pre (.ex e)).all Uq=true->(∀x∈fvN B (nmE e),x∈K0)->fvN B' (nmE (Ka env e))=fvN B (nmE e):=by
 intro n
 induction n with
 | zero=>intro e h;have:=Xd (.ex e);unfold ln at h;omega
 | succ n ih=>
   intro e hn hs hK;have hsE:Wl e=true:=((YQ _).1 hs).1;by_cases h2:e.op=2
   ·have hk:=Zzf hsE h2;rw[Ziw h2 hk]at hK ⊢;rw[<-h.one hK,ZjG,h2];show fvN B' (nmE ((ZP env e.text).getD e))=_;unfold JG;cases hm:ZP env e.text with
    | none=>show fvN B' (nmE e)=fvN B' [e.text];rw[Ziw h2 hk]
    | some v=>
      obtain⟨y,rfl,hy⟩:=hE _ v hm;show fvN B' (nmE (nam y))=fvN B' [y];rw[Ziw rfl rfl];rfl
   ·have h2':(e.op==2)=false:=by simpa using h2
    rw[ZjG,h2',Cq0,Zix,Zix e];rw[Zix,h2']at hK;simp only[h2',Cq0,Gm]at hK ⊢;rw[ZaA]at hK ⊢;rw[ZaA,List.flatMap_map];refine Zje fun k hk=>ih k (by have:=Yb (XC hk);unfold ln at hn ⊢;omega) (((YQ _).1 hs).2 _ (XC hk)) fun x hx=>hK x (Q3.2 ⟨k,hk,hx⟩)
def WsP.thread{σ α:Type}{P Q:σ->α->σ×α->Prop}{w:α->Nat}{I:Nat->σ->Prop}{s:σ}{l:U α}{q:σ×U α}(h:WsP P s l q)
 (hP:∀a∈l,∀s r,P s a r->∀k,I (k+w a) s->I k r.1/\Q s a r):∀k,I (k+(l.map w).sum) s->I k q.1/\WsP Q s l q:=by
 induction h with
 | nil=>intro k hk;exact⟨hk,.nil⟩
 | @cons s a l r q h t ih=>
   intro k hk;rw[G8,List.sum_cons]at hk;obtain⟨a1,a2⟩:=hP a (by simp) s r h (k+(l.map w).sum) (by rw[show k+(l.map w).sum+w a=k+(w a+(l.map w).sum) by omega];exact hk);obtain⟨b1,b2⟩:=ih (fun x hx=>hP x (Kf _ hx)) k a1;exact⟨b1,.cons a2 b2⟩
def WsP.al{σ α:Type}{Q:σ->α->σ×α->Prop}{R:α->α->Prop}{s:σ}{l:U α}{q:σ×U α}(h:WsP Q s l q)(hr:∀s a r,Q s a r->R a r.2):Al R l q.2:=by
 induction h with
 | nil=>exact .nil
 | cons h t ih=>exact .cons (hr _ _ _ h) ih
def WsP.keys{α:Type}{Q:MB->α->MB×α->Prop}{s:MB}{l:U α}{q:MB×U α}(h:WsP Q s l q)(hK:∀s a r,Q s a r->∀x∈YK s,x∈YK r.1):∀x∈YK s,x∈YK q.1:=by
 induction h with
 | nil=>exact fun x hx=>hx
 | cons h t ih=>exact fun x hx=>ih x (hK _ _ _ h x hx)
def WsP.flat{α:Type}{Q:MB->α->MB×α->Prop}{K0:U Y}{fA fB:α->U Y}{s:MB}{l:U α}{q:MB×U α}(h:WsP Q s l q)(hK:∀s a r,Q s a r->∀x∈YK s,x∈YK r.1)
 (hf:∀s a r,a∈l->Q s a r->(∀x∈K0,x∈YK s)->fB r.2=fA a) (h0:∀x∈K0,x∈YK s):q.2.flatMap fB=l.flatMap fA:=by
 induction h with
 | nil=>rfl
 | cons h t ih=>
   rw[Kd,Kd,hf _ _ _ (by simp) h h0,ih (fun s a r ha=>hf s a r (Kf _ ha)) fun x hx=>hK _ _ _ h x (h0 x hx)]
def ZaO{α:Type}(f:α->Nat)(m:Nat):∀l:U α,(l.map fun a=>m*f a).sum=m*(l.map f).sum
 | []=>rfl
 | x::l=>by rw[G8,G8,List.sum_cons,List.sum_cons,ZaO f m l,Nat.mul_add]
def QT(s:MB)(env:NM)(t:Term)(r:MB×Term):Prop:=(∀x∈YK s,x∈YK r.1)/\OKT t r.2/\(∀e2,IdE e2->Wt bdC s e2 r.2=r)/\
 ∀K0 B B',(∀x∈K0,x∈YK s)->EC K0 env B B'->(∀x∈fv (.pr t) B,x∈K0)->fv (.pr r.2) B'=fv (.pr t) B
def QC(s:MB)(env:NM)(c:Za)(r:MB×Za):Prop:=(∀x∈YK s,x∈YK r.1)/\OKC (JG env) c r.2/\(∀e2,IdE e2->Wc bdC s e2 r.2=r)/\
 ∀K0 B B',(∀x∈K0,x∈YK s)->EC K0 env B B'->(∀x∈fv (.cl c) B,x∈K0)->fv (.cl r.2) B'=fv (.cl c) B
def PTc(s:MB)(env:NM)(t:Term)(r:MB×Term):Prop:=∀k,(pre (.pr t)).all Uq=true->(pre (.pr t)).all (Zdd AgW)=true->ln (.pr t)<=60->NmE env->IC (k+12000*ln (.pr t)) s->IC k r.1/\QT s env t r
def PCc(s:MB)(env:NM)(c:Za)(r:MB×Za):Prop:=∀k B,(pre (.cl c)).all Uq=true->(pre (.cl c)).all (Zdd AgW)=true->ln (.cl c)<=60->NmE env->TB B [c]->(∀x∈B,∀y∈B,JG env x=JG env y->x=y)->IC (k+12000*ln (.cl c)) s->IC k r.1/\QC s env c r
def ZDZ{s:MB}{l:U Za}{q:MB×U Za}{env:NM}(h:WsP (fun s c r=>QC s env c r) s l q):∀e2,IdE e2->Wcs bdC s e2 q.2=q:=by
 induction h with
 | nil=>intro e2 _;rw[Zfw]
 | cons h t ih=>intro e2 he;rw[Zfx,h.2.2.1 e2 he,ih e2 he]
def Zs7{s:MB}{l:U Term}{q:MB×U Term}{env:NM}(h:WsP (fun s c r=>QT s env c r) s l q):∀e2,IdE e2->Wts bdC s e2 q.2=q:=by
 induction h with
 | nil=>intro e2 _;rw[Zc4]
 | cons h t ih=>intro e2 he;rw[ZaJ,h.2.2.1 e2 he,ih e2 he]
def TB.one{B:U Y}{l:U Za}(h:TB B l){c:Za}(hc:c∈l):TB B [c]:=by
 have hs:∀sp,sp∈[c].flatMap X0->sp∈l.flatMap X0:=fun sp hsp=>by
  rw[Kd,List.flatMap_nil,Gj]at hsp;exact Q3.2 ⟨c,hc,hsp⟩
 constructor
 ·intro sp hsp d hd m hm;rcases Kx.1 hsp with rfl|hsp
  ·have:d=c:=by simpa using hd
   subst this;exact h.j (E0,l) Gs d hc m hm
  ·exact h.j sp (Kf _ (hs sp hsp)) d hd m hm
 ·exact fun sp hsp=>h.p sp (hs sp hsp)
def ZAl{s:MB}{a d:Nat}(h:IC (a+d) s){s1:MB}{to:U Y}(e:frm s d=(s1,to)):IC a s1/\to.length=d/\to.Nodup/\(∀y∈to,Xl y=true/\y∉YK s)/\∀x∈YK s,x∈YK s1:=by
 obtain⟨h1,h2⟩:=h;have a1:=Zhz d s V6;have a2:=ZhA d s h1;have a3:=Ztk d s V6;have a4:=Zpb d s V6;rw[e]at a1 a2 a3 a4
 exact⟨⟨a2,by have:=a1.2;simp only at this;omega⟩,a1.1,a3.1,a3.2,fun x hx=>by
  have a4:YK s1=YK s++to:=a4;rw[a4];exact Gf _ hx⟩
def ZDY{l:U Za}:(jns l).map mq=l.flatMap fun c=>c.joins.map mq:=by
 unfold jns;rw[List.map_flatMap]
def ZDX{f:Y->Y}{l m:U Za}(h:Al (OKC f) l m):(jns m).map mq=((jns l).map mq).map fun q=>(f q.1,q.2):=by
 rw[ZDY,ZDY,List.map_flatMap,h.flat (f:=fun c=>(c.joins.map mq).map fun q=>(f q.1,q.2)) fun x y r=>by rw[r.jq,Gd];rfl]
def ZDM{f:Y->Y}{l m:U Za}(h:Al (OKC f) l m):(m.flatMap X0).map sg=((l.flatMap X0).map sg).map (rnS f):=by
 rw[List.map_flatMap,List.map_flatMap,List.map_flatMap,h.flat (f:=fun c=>((X0 c).map sg).map (rnS f)) fun x y r=>by rw[r.pl,Gd];rfl]
def ZzV{env:NM}(hE:NmE env){l:U Zg}(h:∀x∈l,(pre (.ex x)).all Uq=true):Al OKE l (l.map (Ka env)):=by
 induction l with
 | nil=>exact .nil
 | cons x l ih=>exact .cons (ZHB hE _ x V7 (h x (by simp))).1 (ih fun y hy=>h y (Kf _ hy))
def Zlz{l m:U Zg}(a:Al OKE l m){e2:NM}(he2:IdE e2):m.map (Ka e2)=m:=by
 conv=>rhs;rw[<-List.map_id m]
 refine Gt fun x hx=>?_
 obtain⟨y,hy,r⟩:=a.right x hx;exact Zzh he2 _ x r.Uq V7
def EC.text{K0:U Y}{env:NM}{B B':U Y}(h:EC K0 env B B')(hE:NmE env){t:Term}(hT:K8 t=true)(hfv:∀y∈(if t.text=E0 then [] else fvN B [t.text]),y∈K0):(if tx0 env t.text=E0 then [] else fvN B' [tx0 env t.text])=if t.text=E0 then [] else fvN B [t.text]:=by
 by_cases hte:t.text=E0
 ·rw[hte];unfold tx0;rw[if_pos rfl,if_pos rfl];simp
 ·have htn:Xl t.text=true:=by
   unfold K8 at hT;rw[Ba0]at hT;have h2:=hT.2;cases hb:((t.op==2)||(t.op==6))||(t.op==8)<;>rw[hb]at h2<;>simp only[Cq1,Cq0,decide_eq_true_eq]at h2
   ·exact absurd h2 hte
   ·exact h2
  have hne:tx0 env t.text≠E0:=fun e=>by have:=ZnX hE htn;rw[e,Zox]at this;cases this
  rw[if_neg hte]at hfv;rw[if_neg hne,if_neg hte];unfold tx0;rw[if_neg hte];exact h.one hfv
def EC.ZLC{K0:U Y}{env:NM}{B B':U Y}(h:EC K0 env B B')(hE:NmE env){l:U Zg}(hs:∀x∈l,(pre (.ex x)).all Uq=true)(hfv:∀y∈fvN B (l.flatMap nmE),y∈K0):fvN B' ((l.map (Ka env)).flatMap nmE)=fvN B (l.flatMap nmE):=by
 rw[ZaA]at hfv;rw[ZaA,ZaA,List.flatMap_map];exact Zje fun a ha=>h.exp hE _ a V7 (hs a ha) fun x hx=>hfv x (Q3.2 ⟨a,ha,hx⟩)
def ZFr{f:Y->Y}{l m:U Za}(h:Al (OKC f) l m):sgs m=(E0,((sg (E0,l)).2.map fun q=>(f q.1,q.2)))::((l.flatMap X0).map sg).map (rnS f):=by
 unfold sgs;rw[G8]
 have e1:sg (E0,m)=(E0,((sg (E0,l)).2.map fun q=>(f q.1,q.2))):=by
  unfold sg;show(E0,(jns m).map mq)=(E0,((jns l).map mq).map fun q=>(f q.1,q.2));rw[ZDX h]
 rw[e1,ZDM h]
def Zrh{js:U Z4}{env en:NM}:ZB (js.map (Us env en))=(ZB js).map (JG en):=by
 unfold ZB;rw[List.flatMap_map,List.map_flatMap];rfl
def Zmz(l:U Y){e2:NM}(h:IdE e2):IdE (ext e2 l l):=ZfB h l
def Zvs:(∀t s env,PTc s env t (Wt bdC s env t))/\(∀c s env,PCc s env c (Wc bdC s env c)):=by
 refine ZMv bdC PTc PCc ?_ ?_ ?_ ?_
 ·intro s env en t s1 to rd rk h4 hbd hen hd hk k hs hag h60 hE hI;have hT:K8 t=true:=((YQ _).1 hs).1;obtain⟨d1,d2,d3⟩:=Zmk h60 hs (Xq (.pr t));have hdl:=ZpL d1 d2 d3;have hlen:(Qw t.defs).length<=12000:=by unfold Qw;rw[K2];omega
  have hA:AgW t.defs=true:=by
   have:(!(t.op==4)||AgW t.defs)=true:=((YQ _).1 hag).1;rw[h4]at this
   simpa using this
  have hAS:=(Zug _).1 hA;have hnd:(Qw t.defs).Nodup:=by rw[ZhH];exact Zvl hAS
  have hln:=ZsZ t;have hI2:IC ((k+12000*(t.kids.map fun a=>ln (.pr a)).sum+12000*(t.defs.map fun a=>ln (.cl a)).sum)+(Qw t.defs).length) s:=⟨hI.1,by have:=hI.2;omega⟩
  obtain⟨i1,tl,tn,tw,ks⟩:=ZAl hI2 (show frm s (Qw t.defs).length=(s1,to) from hbd);have hEn:NmE en:=by rw[hen];exact Zt9 hE tl.symm fun y hy=>(tw y hy).1
  have hinj:∀x∈Qw t.defs,∀y∈Qw t.defs,JG en x=JG en y->x=y:=by rw[hen];exact ZAU hnd tn tl.symm
  have hTB:TB (Qw t.defs) t.defs:=ZAd (l:=t.defs) [];obtain⟨i2,hd⟩:=hd.thread (Q:=fun s c r=>QC s en c r) (w:=fun a=>12000*ln (.cl a)) (I:=IC) (fun c hc s r hp k hIk=>hp k (Qw t.defs) (((YQ _).1 hs).2 _ (Qq hc)) (((YQ _).1 hag).2 _ (Qq hc)) (by have:=Yb (Qq hc);unfold ln at h60 ⊢;omega) hEn (hTB.one hc) hinj hIk) (k+12000*(t.kids.map fun a=>ln (.pr a)).sum) (by rw[ZaO];exact i1);obtain⟨i3,hk⟩:=hk.thread (Q:=fun s c r=>QT s en c r) (w:=fun a=>12000*ln (.pr a)) (I:=IC) (fun c hc s r hp k hIk=>hp k (((YQ _).1 hs).2 _ (Xr hc)) (((YQ _).1 hag).2 _ (Xr hc)) (by have:=Yb (Xr hc);unfold ln at h60 ⊢;omega) hEn hIk) k (by rw[ZaO];exact i2);have ad:Al (OKC (JG en)) t.defs rd.2:=hd.al fun s c r h=>h.2.1
  have ak:Al OKT t.kids rk.2:=hk.al fun s c r h=>h.2.1
  have aa:Al OKE t.args (t.args.map (Ka env)):=ZzV hE fun x hx=>((YQ _).1 hs).2 _ (Ju hx)
  have htx:∀x∈txS (sgs t.defs),x∈Qw t.defs:=fun x hx=>by rw[ZhH];exact(ZBt _ x).2 hx
  have hsg:=ZFr ad
  have ZOL:AgW rd.2=true:=by
   rw[Zug,hsg];exact ZIx (f:=JG en) (g0:=sg (E0,t.defs)) (g:=(t.defs.flatMap X0).map sg) (fun x hx y hy=>hinj x (htx x hx) y (htx y hy)) hAS
  have hdn:Qw rd.2=to:=by
   rw[ZhH,hsg];have:=ZHL (f:=JG en) (g0:=sg (E0,t.defs)) (g:=(t.defs.flatMap X0).map sg) fun x hx y hy=>hinj x (htx x hx) y (htx y hy)
   refine this.trans ?_;rw[show dnS (sg (E0,t.defs)::(t.defs.flatMap X0).map sg)=Qw t.defs from(ZhH _).symm,hen];exact ZsF hnd tl.symm
  have hOK:OKT t (.mk t.op (tx0 env t.text) (t.args.map (Ka env)) rd.2 rk.2):=ZAf (f:=JG en) (ZsH hT hE (by rw[Gc]) ad.len ak.len) (by show(!(t.op==4)||AgW rd.2)=true;rw[ZOL,Bool.or_true]) aa ad ak;refine⟨i3,fun x hx=>hk.keys (fun _ _ _ h=>h.1) x (hd.keys (fun _ _ _ h=>h.1) x (ks x hx)),hOK,fun e2 he2=>?_,fun K0 B B' h0 hEC hfv=>?_⟩
  ·have hb2:bdC s e2 (Qw rd.2) (.pr (.mk t.op (tx0 env t.text) (t.args.map (Ka env)) rd.2 rk.2))=(s1,to):=by
    show frm s (Qw rd.2).length=_;rw[hdn,tl];exact hbd
   have hin:inT bdC s e2 (.mk t.op (tx0 env t.text) (t.args.map (Ka env)) rd.2 rk.2)=(s1,ext e2 to to):=by
    unfold inT;show(bif t.op==4 then _ else _)=_;rw[h4];show((bdC s e2 (Qw rd.2) _).1,ext e2 (Qw rd.2) (bdC s e2 (Qw rd.2) _).2)=_;rw[h4]at hb2;rw[hb2,hdn]
   rw[Znz (t:=.mk t.op (tx0 env t.text) (t.args.map (Ka env)) rd.2 rk.2) h4,hin];dsimp only;rw[ZDZ hd _ (Zmz to he2)]
   try dsimp only
   rw[Zs7 hk _ (Zmz to he2),Zlz aa he2,Zl1 he2]
  ·rw[Zln]at hfv;rw[Zln,Zln t];have hb1:bnd t B=B++Qw t.defs:=by unfold bnd;rw[h4];rfl
   have hb2:bnd (.mk t.op (tx0 env t.text) (t.args.map (Ka env)) rd.2 rk.2) B'=B'++to:=by
    unfold bnd;show(bif t.op==4 then B'++Qw rd.2 else B')=_;rw[h4,hdn];rfl
   rw[hb1]at hfv;rw[hb1,hb2];have ZB7:EC K0 en (B++Qw t.defs) (B'++to):=by rw[hen];exact hEC.ext tl.symm fun y hy z=>(tw y hy).2 (h0 y z)
   have h01:∀x∈K0,x∈YK s1:=fun x hx=>ks x (h0 x hx)
   have g1:=hEC.text hE hT fun y hy=>hfv y (Gf _ (Gf _ hy))
   have g2:=hEC.ZLC hE (l:=t.args) (fun x hx=>((YQ _).1 hs).2 _ (Ju hx)) fun y hy=>hfv y (Gf _ (G4 _ hy))
   have g3:rd.2.flatMap (fun c=>fv (.cl c) (B'++to))=t.defs.flatMap fun c=>fv (.cl c) (B++Qw t.defs):=
    hd.flat (K0:=K0) (fun _ _ _ h=>h.1) (fun s c r hc h h0=>h.2.2.2 K0 _ _ h0 ZB7 fun x hx=>hfv x (G4 _ (Gf _ (Q3.2 ⟨c,hc,hx⟩)))) h01
   have g4:rk.2.flatMap (fun c=>fv (.pr c) (B'++to))=t.kids.flatMap fun c=>fv (.pr c) (B++Qw t.defs):=
    hk.flat (K0:=K0) (fun _ _ _ h=>h.1) (fun s c r hc h h0=>h.2.2.2 K0 _ _ h0 ZB7 fun x hx=>hfv x (G4 _ (G4 _ (Q3.2 ⟨c,hc,hx⟩)))) fun x hx=>hd.keys (fun _ _ _ h=>h.1) x (h01 x hx)
   show(if tx0 env t.text=E0 then [] else fvN B' [tx0 env t.text])++fvN B' ((t.args.map (Ka env)).flatMap nmE)++(rd.2.flatMap (fun c=>fv (.cl c) (B'++to))++rk.2.flatMap (fun c=>fv (.pr c) (B'++to)))=_;rw[g1,g2,g3,g4]
 ·intro s env t rk h4 hk k hs hag h60 hE hI;have hT:K8 t=true:=((YQ _).1 hs).1;have hd0:=ZfO hT h4;have h4':(t.op==4)=false:=by simpa using h4
  have hln:=ZsZ t;obtain⟨i3,hk⟩:=hk.thread (Q:=fun s c r=>QT s env c r) (w:=fun a=>12000*ln (.pr a)) (I:=IC) (fun c hc s r hp k hIk=>hp k (((YQ _).1 hs).2 _ (Xr hc)) (((YQ _).1 hag).2 _ (Xr hc)) (by have:=Yb (Xr hc);unfold ln at h60 ⊢;omega) hE hIk) k (by rw[ZaO];exact⟨hI.1,by have:=hI.2;omega⟩);have ak:Al OKT t.kids rk.2:=hk.al fun s c r h=>h.2.1
  have aa:Al OKE t.args (t.args.map (Ka env)):=ZzV hE fun x hx=>((YQ _).1 hs).2 _ (Ju hx)
  have ad:Al (OKC id) t.defs []:=by rw[hd0];exact .nil
  have hOK:OKT t (.mk t.op (tx0 env t.text) (t.args.map (Ka env)) [] rk.2):=ZAf (f:=id) (ZsH hT hE (by rw[Gc]) ad.len ak.len) (by show(!(t.op==4)||AgW [])=true;rw[h4'];rfl) aa ad ak;refine⟨i3,fun x hx=>hk.keys (fun _ _ _ h=>h.1) x hx,hOK,fun e2 he2=>?_,fun K0 B B' h0 hEC hfv=>?_⟩
  ·rw[ZhO (t:=.mk t.op (tx0 env t.text) (t.args.map (Ka env)) [] rk.2) h4];dsimp only;rw[Zs7 hk _ he2,Zlz aa he2,Zl1 he2]
  ·rw[Zln]at hfv;rw[Zln,Zln t];have hb1:bnd t B=B:=by unfold bnd;rw[h4'];rfl
   have hb2:bnd (.mk t.op (tx0 env t.text) (t.args.map (Ka env)) [] rk.2) B'=B':=by
    unfold bnd;show(bif t.op==4 then _ else B')=_;rw[h4'];rfl
   rw[hb1]at hfv;rw[hb1,hb2];have g1:=hEC.text hE hT fun y hy=>hfv y (Gf _ (Gf _ hy))
   have g2:=hEC.ZLC hE (l:=t.args) (fun x hx=>((YQ _).1 hs).2 _ (Ju hx)) fun y hy=>hfv y (Gf _ (G4 _ hy))
   have g4:rk.2.flatMap (fun c=>fv (.pr c) B')=t.kids.flatMap fun c=>fv (.pr c) B:=
    hk.flat (K0:=K0) (fun _ _ _ h=>h.1) (fun s c r hc h h0=>h.2.2.2 K0 _ _ h0 hEC fun x hx=>hfv x (G4 _ (G4 _ (Q3.2 ⟨c,hc,hx⟩)))) h0
   show(if tx0 env t.text=E0 then [] else fvN B' [tx0 env t.text])++fvN B' ((t.args.map (Ka env)).flatMap nmE)++(([]:U Za).flatMap (fun c=>fv (.cl c) B')++rk.2.flatMap (fun c=>fv (.pr c) B'))=_;rw[g1,g2,g4,hd0]
   rfl
 ·intro s env c rd rk h2 hd hk k B hs hag h60 hE hTB hinj hI;have hC:UD c=true:=((YQ _).1 hs).1
  have hj0:c.joins=[]:=by
   rcases(ZaU hC).2 with h|h
   ·omega
   ·exact h.2
  have hln:=Zs0 c;have ZOB:TB B c.defs:=hTB.sub (List.mem_singleton_self c) h2;obtain⟨i2,hd⟩:=hd.thread (Q:=fun s c r=>QC s env c r) (w:=fun a=>12000*ln (.cl a)) (I:=IC) (fun d hc s r hp k hIk=>hp k B (((YQ _).1 hs).2 _ (XO hc)) (((YQ _).1 hag).2 _ (XO hc)) (by have:=Yb (XO hc);unfold ln at h60 ⊢;omega) hE (ZOB.one hc) hinj hIk) (k+12000*(c.kids.map fun a=>ln (.pr a)).sum) (by rw[ZaO];exact⟨hI.1,by have:=hI.2;omega⟩);obtain⟨i3,hk⟩:=hk.thread (Q:=fun s c r=>QT s env c r) (w:=fun a=>12000*ln (.pr a)) (I:=IC) (fun d hc s r hp k hIk=>hp k (((YQ _).1 hs).2 _ (Y3 hc)) (((YQ _).1 hag).2 _ (Y3 hc)) (by have:=Yb (Y3 hc);unfold ln at h60 ⊢;omega) hE hIk) k (by rw[ZaO];exact i2);have ad:Al (OKC (JG env)) c.defs rd.2:=hd.al fun s c r h=>h.2.1
  have ak:Al OKT c.kids rk.2:=hk.al fun s c r h=>h.2.1
  have hsC:UD (.mk c.form (JG env c.text) [] rd.2 rk.2)=true:=by
   unfold UD at hC ⊢;rw[h2]at hC ⊢;simp only[Int.reduceBEq,Cq1,Ba0,beq_iff_eq,decide_eq_true_eq,ad.len,ak.len]at hC ⊢;exact⟨hC.1,⟨Zem hE hC.2.1.1,rfl⟩,hC.2.2⟩
  have hOK:OKC (JG env) c (.mk c.form (JG env c.text) [] rd.2 rk.2):=ZAg hsC ad ak (by rw[hj0];rfl) (by
   rw[UM,UM c];show(bif c.form==2 then(JG env c.text,rd.2)::rd.2.flatMap X0 else []).map sg=_;rw[h2];show sg (JG env c.text,rd.2)::(rd.2.flatMap X0).map sg=rnS (JG env) (sg (c.text,c.defs))::(c.defs.flatMap X0).map (fun sp=>rnS (JG env) (sg sp))
   have e1:sg (JG env c.text,rd.2)=rnS (JG env) (sg (c.text,c.defs)):=by
    unfold sg rnS;show(JG env c.text,(jns rd.2).map mq)=(JG env c.text,((jns c.defs).map mq).map fun q=>(JG env q.1,q.2));rw[ZDX ad]
   rw[e1,ZDM ad,Gd];rfl)
  refine⟨i3,fun x hx=>hk.keys (fun _ _ _ h=>h.1) x (hd.keys (fun _ _ _ h=>h.1) x hx),hOK,fun e2 he2=>?_,fun K0 B1 B' h0 hEC hfv=>?_⟩
  ·rw[Zfy (c:=.mk c.form (JG env c.text) [] rd.2 rk.2) h2];dsimp only;rw[ZDZ hd _ he2]
   try dsimp only
   rw[Zs7 hk _ he2,ZdE he2]
  ·rw[Zlo]at hfv;rw[Zlo,Zlo c];have hj1:B1++ZB c.joins=B1:=by rw[hj0];exact Gj _
   rw[hj1]at hfv;rw[hj1];have hj2:B'++ZB []=B':=Gj _
   have g3:rd.2.flatMap (fun c=>fv (.cl c) B')=c.defs.flatMap fun c=>fv (.cl c) B1:=
    hd.flat (K0:=K0) (fun _ _ _ h=>h.1) (fun s d r hc h h0=>h.2.2.2 K0 _ _ h0 hEC fun x hx=>hfv x (Gf _ (Q3.2 ⟨d,hc,hx⟩))) h0
   have g4:rk.2.flatMap (fun c=>fv (.pr c) B')=c.kids.flatMap fun c=>fv (.pr c) B1:=
    hk.flat (K0:=K0) (fun _ _ _ h=>h.1) (fun s d r hc h h0=>h.2.2.2 K0 _ _ h0 hEC fun x hx=>hfv x (G4 _ (Q3.2 ⟨d,hc,hx⟩))) fun x hx=>hd.keys (fun _ _ _ h=>h.1) x (h0 x hx)
   show rd.2.flatMap (fun c=>fv (.cl c) B')++rk.2.flatMap (fun c=>fv (.pr c) (B'++ZB []))=_;rw[hj2,g3,g4]
 ·intro s env en c s1 to rk h2 hbd hen hk k B hs hag h60 hE hTB hinj hI;have hC:UD c=true:=((YQ _).1 hs).1
  have hf:c.form=1:=by
   rcases(ZaU hC).2 with h|h
   ·exact h
   ·exact absurd h.1 h2
  have hf2:(c.form==2)=false:=by simpa using h2
  obtain⟨ht,hd0⟩:=ZfS hC hf;have hjl:=ZiO hC;have hln:=Zs0 c;have hC':=hC;unfold UD at hC';rw[hf]at hC';simp only[Int.reduceBEq,Cq0,Ba0,beq_iff_eq,decide_eq_true_eq]at hC';obtain⟨hk1,⟨⟨⟨⟨_,_⟩,_⟩,hj0⟩,hj3⟩,hjW⟩:=hC';obtain⟨w1,w2,w3⟩:=(Zmu _ _ _).1 hjW;have hI2:IC ((k+12000*(c.kids.map fun a=>ln (.pr a)).sum)+(ZB c.joins).length) s:=⟨hI.1,by have:=hI.2;omega⟩
  obtain⟨i1,tl,tn,tw,ks⟩:=ZAl hI2 (show frm s (ZB c.joins).length=(s1,to) from hbd);have hEn:NmE en:=by rw[hen];exact Zt9 hE tl.symm fun y hy=>(tw y hy).1
  obtain⟨i3,hk⟩:=hk.thread (Q:=fun s c r=>QT s en c r) (w:=fun a=>12000*ln (.pr a)) (I:=IC) (fun d hc s r hp k hIk=>hp k (((YQ _).1 hs).2 _ (Y3 hc)) (((YQ _).1 hag).2 _ (Y3 hc)) (by have:=Yb (Y3 hc);unfold ln at h60 ⊢;omega) hEn hIk) k (by rw[ZaO];exact i1);have ak:Al OKT c.kids rk.2:=hk.al fun s c r h=>h.2.1
  have ad:Al (OKC id) c.defs []:=by rw[hd0];exact .nil
  have hjn:ZB (c.joins.map (Us env en))=to:=by rw[Zrh,hen];exact ZsF w3 tl.symm
  have hBt:∀m∈c.joins,m.text∈B:=fun m hm=>hTB.j (E0,[c]) Gs c (List.mem_singleton_self c) m hm
  have ZOr:jW (fun _=>false) (fun _=>false) (c.joins.map (Us env en))=true:=by
   rw[Zmu];refine⟨fun m hm=>?_,?_,by rw[hjn];exact tn⟩
   ·obtain⟨m0,hm0,rfl⟩:=G3.1 hm;obtain⟨a1,a2,a3,a4⟩:=w1 m0 hm0;refine⟨Zem hE a1,rfl,by show(m0.names.map (JG en)).length<=3;rw[Gc];exact a3,fun x hx=>⟨?_,rfl⟩⟩;obtain⟨x0,hx0,rfl⟩:=G3.1 (show x∈m0.names.map (JG en) from hx);exact Zem hEn (a4 x0 hx0).1
   ·have e:(c.joins.map (Us env en)).map (·.text)=(c.joins.map (·.text)).map (JG env):=by
     rw[Gd,Gd];rfl
    rw[e];refine Zdm w2 fun x hx y hy=>?_
    obtain⟨m,hm,rfl⟩:=G3.1 hx;obtain⟨m',hm',rfl⟩:=G3.1 hy;exact hinj _ (hBt m hm) _ (hBt m' hm')
  have hsC:UD (.mk c.form E0 (c.joins.map (Us env en)) [] rk.2)=true:=by
   unfold UD;simp only[hf,Int.reduceBEq,Cq0,Ba0,beq_iff_eq,decide_eq_true_eq,ak.len,Gc];refine⟨hk1,⟨⟨⟨⟨?_,?_⟩,?_⟩,hj0⟩,hj3⟩,ZOr⟩<;>first|trivial|rfl
  have hOK:OKC (JG env) c (.mk c.form E0 (c.joins.map (Us env en)) [] rk.2):=ZAg hsC ad ak (by
   rw[Gd];refine Gt fun m hm=>?_
   show(JG env m.text,(m.names.map (JG en)).length)=_;rw[Gc]) (by
   rw[UM,UM c];show(bif c.form==2 then _ else []).map sg=_;rw[hf2];rfl)
  refine⟨i3,fun x hx=>hk.keys (fun _ _ _ h=>h.1) x (ks x hx),hOK,fun e2 he2=>?_,fun K0 B1 B' h0 hEC hfv=>?_⟩
  ·have hb2:bdC s e2 (ZB (c.joins.map (Us env en))) (.cl (.mk c.form E0 (c.joins.map (Us env en)) [] rk.2))=(s1,to):=by
    show frm s (ZB (c.joins.map (Us env en))).length=_;rw[hjn,tl];exact hbd
   have hin:inC bdC s e2 (.mk c.form E0 (c.joins.map (Us env en)) [] rk.2)=(s1,ext e2 to to):=by
    unfold inC;show(bif c.form==2 then _ else _)=_;rw[hf2];show((bdC s e2 (ZB (c.joins.map (Us env en))) _).1,ext e2 (ZB (c.joins.map (Us env en))) (bdC s e2 (ZB (c.joins.map (Us env en))) _).2)=_;rw[hb2,hjn]
   rw[ZhP (c:=.mk c.form E0 (c.joins.map (Us env en)) [] rk.2) h2,hin];dsimp only;rw[Zs7 hk _ (Zmz to he2)]
   have e:(c.joins.map (Us env en)).map (Us e2 (ext e2 to to))=c.joins.map (Us env en):=by
    conv=>rhs;rw[<-List.map_id (c.joins.map (Us env en))]
    refine Gt fun m hm=>?_
    unfold Us;rw[ZdE he2]
    have:m.names.map (JG (ext e2 to to))=m.names:=by
     conv=>rhs;rw[<-List.map_id m.names]
     exact Gt fun x _=>ZdE (Zmz to he2) x
    rw[this];rfl
   rw[e]
  ·rw[Zlo]at hfv;rw[Zlo,Zlo c];have ZB7:EC K0 en (B1++ZB c.joins) (B'++to):=by rw[hen];exact hEC.ext tl.symm fun y hy z=>(tw y hy).2 (h0 y z)
   have h01:∀x∈K0,x∈YK s1:=fun x hx=>ks x (h0 x hx)
   have g4:rk.2.flatMap (fun c=>fv (.pr c) (B'++to))=c.kids.flatMap fun k=>fv (.pr k) (B1++ZB c.joins):=
    hk.flat (K0:=K0) (fun _ _ _ h=>h.1) (fun s d r hc h h0=>h.2.2.2 K0 _ _ h0 ZB7 fun x hx=>hfv x (G4 _ (Q3.2 ⟨d,hc,hx⟩))) h01
   show([]:U Za).flatMap (fun c=>fv (.cl c) B')++rk.2.flatMap (fun k=>fv (.pr k) (B'++ZB (c.joins.map (Us env en))))=_;rw[hjn,g4,hd0];rfl
def ZtU{t:Term}(h:Q7 AgW (.pr t)=true):Q7 AgW (.pr (UF t))=true/\ln (.pr (UF t))=ln (.pr t)/\dep (.pr (UF t))=dep (.pr t)/\Zdp (UF t)=Zdp t/\UF (UF t)=UF t:=by
 have h':=h;unfold Q7 at h';simp only[Ba0,decide_eq_true_eq]at h';obtain⟨⟨⟨h60,hs⟩,h12⟩,hag⟩:=h';obtain⟨a,b⟩:=Zwi h60;obtain⟨_,q1,q2,q3,q4⟩:=Zvs.1 t (tk0 t) [] 0 hs hag h60 ZDn ⟨a,by unfold ln;omega⟩
 have hfv:fv (.pr (UF t)) []=fv (.pr t) []:=q4 (YK (tk0 t)) [] [] (fun x hx=>hx) (ZIt _) fun x hx=>by
  obtain⟨_,k2,_⟩:=U2 (JY (.pr t) []) [] List.nodup_nil;refine(k2 x).2 (.inr ?_);unfold fv at hx;obtain⟨e,he,hn⟩:=List.mem_filterMap.1 hx;unfold nt at hn;by_cases hz:e.1∈e.2
  ·rw[if_pos hz]at hn;cases hn
  ·rw[if_neg hz]at hn;cases hn;exact⟨e,he,rfl,hz⟩
 refine⟨?_,q2.len,q2.dep,Zyn hfv,?_⟩
 ·unfold Q7;simp only[Ba0,decide_eq_true_eq];have hl:=q2.len;have hd:=q2.dep;exact⟨⟨⟨by unfold UF;unfold ln at hl;omega,q2.Uq⟩,by unfold UF;omega⟩,q2.agr⟩
 ·have e:=q3 [] Zub;show(Wt bdC (tk0 (UF t)) [] (UF t)).2=UF t;have ek:tk0 (UF t)=tk0 t:=by rw[Zwj,Zwj,hfv]
  rw[ek];exact congrArg (·.2) e
def Qv{α:Type}(a b:α):Z:=@decide (a=b) (Classical.propDecidable _)
def Y9{α:Type}{a b:α}:Qv a b=true↔a=b:=by unfold Qv;exact @decide_eq_true_iff _ (Classical.propDecidable _)
def Zff{α:Type}(a:α):Qv a a=true:=Y9.2 rfl
def Za7{α:Type}{a b:α}(h:a≠b):Qv a b=false:=by
 cases e:Qv a b
 ·rfl
 ·exact absurd (Y9.1 e) h
def JI{α:Type}(l r:U α)(hn:l.length=r.length)(hl:l.length<=BS){body:Int->(Int->O Z)->O Z}{fin:O Z}
 (hb:∀(k:Nat)(h:k<l.length) nx,body (k:Int) nx=bif Qv l[k] (r[k]'V6) then nx ((k+1:Nat):Int) else some false)
 (he:∀nx,body (l.length:Int) nx=fin) {F:Nat} (hF:10000000000000000000<=F):loop F body 0=bif Qv l r then fin else some false:=by
 unfold BS at hl
 have:=ZiJ (body:=body) (r1:=some false) (r2:=fin) (fun k:Nat=>(k:Int)) (fun k=>!Qv l[k]? r[k]?) (n:=l.length) (F:=F) V6
  (fun k hk nx=>by
    rw[hb k hk nx,J1 hk,J1 (show k<r.length by omega)]
    have:Qv (some l[k]) (some (r[k]'V6))=Qv l[k] (r[k]'V6):=by
     rw[Gx,Y9,Y9];simp
    rw[this];cases Qv l[k] (r[k]'V6)<;>rfl) he
 refine(show loop F body 0=loop F body ((0:Nat):Int) from rfl).trans (this.trans ?_);cases h:Qv l r with
 | true=>
   have e:=Y9.1 h;subst e
   have:(List.range l.length).any (fun k=>!Qv l[k]? l[k]?)=false:=by
    rw[List.any_eq_false];intro k _;rw[Zff];simp
   rw[this];rfl
 | false=>
   have:(List.range l.length).any (fun k=>!Qv l[k]? r[k]?)=true:=by
    rw[List.any_eq_true];refine Decidable.byContradiction fun hz=>?_
    have:l=r:=GF fun k=>by
     by_cases hk:k<l.length
     ·refine Y9.1 ?_;cases e:Qv l[k]? r[k]?
      ·exact absurd ⟨k,GK.2 hk,by rw[e];rfl⟩ hz
      ·rfl
     ·rw[Jn V6,Jn V6]
    rw[Y9.2 this]at h;cases h
   rw[this];rfl
def okS:Part->Prop
 | .pr t=>t.args.length<=BS/\t.defs.length<=BS/\t.kids.length<=BS
 | .ex e=>e.kids.length<=BS
 | .cl c=>c.joins.length<=BS/\(∀m∈c.joins,m.names.length<=BS)/\c.defs.length<=BS/\c.kids.length<=BS
def Zbu(p:Part):Prop:=∀q∈pre p,okS q
def Kj{p:Part}(h:Zbu p):okS p:=h p (Xq p)
def QY{p k:Part}(h:Zbu p)(hk:k∈ZM p):Zbu k:=fun q hq=>h q (Xk hk hq)
def K9{α β:Type}{l:U α}{r:U β}(h:l.length=r.length):((l.length:Int) !=(r.length:Int))=false:=by rw[h];exact ZcI _
def Zq7{F:Nat}(hF:10000000000000000000<=F)(l r:U Y)(hl:l.length<=BS):Zkw F l r=some (Qv l r):=by
 unfold Zkw;by_cases hne:l.length=r.length
 ·rw[K9 hne,Cq0];refine(JI l r hne hl (fin:=some true) (fun k hk nx=>?_) (fun nx=>?_) hF).trans ?_
  ·unfold BS at hl;simp only[ZdY,Yc hk,Cq1,Qn hk,Qn (show k<r.length by omega),Bq0,ZhU (show k<4611686018427387904 by omega)];by_cases e:l[k]=r[k]'V6
   ·rw[Y9.2 e];simp[e]
   ·rw[Za7 e];simp[e]
  ·simp[ZdY]
  ·cases Qv l r<;>rfl
 ·have:((l.length:Int) !=(r.length:Int))=true:=by simpa using fun h=>hne V6
  rw[this,Cq1,Za7 fun h=>hne (congrArg _ h)]
def Zze{F:Nat}(hF:10000000000000000000<=F):∀n a b,Zbu (.ex a)->(pre (.ex a)).length<=n->∀Fr,n<=Fr->loop Fr (Zpn F) (a,b)=some (Qv a b):=by
 intro n
 induction n with
 | zero=>intro a b _ hp;have:=Xd (.ex a);omega
 | succ n ih=>
   intro a b hs hp Fr hf;obtain⟨m,rfl⟩:∃m,Fr=m+1:=⟨Fr-1,by omega⟩
   rw[Yj];show(bif((((a.op !=b.op)||(a.n !=b.n))||(!decide (a.text=b.text)))||((a.kids.length:Int) !=(b.kids.length:Int))) then some false else loop F (Zji a b (loop m (Zpn F))) 0)=_;by_cases h:a.op=b.op/\a.n=b.n/\a.text=b.text/\a.kids.length=b.kids.length
   ·obtain⟨h1,h2,h3,h4⟩:=h;rw[h1,h2,h3,K9 h4,ZcI,ZcI,decide_eq_true rfl];simp only[Bool.or_self,QP,Cq0];have hl:a.kids.length<=BS:=Kj hs;refine(JI a.kids b.kids h4 hl (fin:=some true) (fun k hk nx=>?_) (fun nx=>?_) hF).trans ?_
    ·have hmem:Part.ex a.kids[k]∈ZM (.ex a):=G3.2 ⟨_,GM hk,rfl⟩;have:=ih a.kids[k] (b.kids[k]'V6) (QY hs hmem) (by have:=Yb hmem;omega) m V6;unfold BS at hl;simp only[Zji,Yc hk,Cq1,Qn hk,Qn (show k<b.kids.length by omega),Bq0,this,ZhU (show k<4611686018427387904 by omega)];cases Qv a.kids[k] (b.kids[k]'V6)<;>rfl
    ·simp[Zji]
    ·have:Qv a b=Qv a.kids b.kids:=by
      rw[Gx,Y9,Y9];cases a;cases b;simp only[Zg.mk.injEq]at *;exact⟨fun h=>h.2.2.2,fun h=>⟨h1,h2,h3,h⟩⟩
     rw[this];cases Qv a.kids b.kids<;>rfl
   ·have hne:a≠b:=fun e=>h ⟨by rw[e],by rw[e],by rw[e],by rw[e]⟩
    have:((((a.op !=b.op)||(a.n !=b.n))||(!decide (a.text=b.text)))||((a.kids.length:Int) !=(b.kids.length:Int)))=true:=by
     refine Decidable.byContradiction fun hz=>h ?_
     simp only[Bool.not_eq_true,Ge,bne_eq_false_iff_eq,Bool.not_eq_false',decide_eq_true_eq]at hz;exact⟨hz.1.1.1,hz.1.1.2,hz.1.2,by omega⟩
    rw[this,Cq1,Za7 hne]
def Zpp{F:Nat}(hF:10000000000000000000<=F)(nx:Term×Term->O Z)(l r:U Term)(hl:l.length<=BS)(hnx:∀k∈l,∀y,nx (k,y)=some (Qv k y)):Zpq F nx l r=some (Qv l r):=by
 unfold Zpq;by_cases hne:l.length=r.length
 ·rw[K9 hne,Cq0];refine(JI l r hne hl (fin:=some true) (fun k hk nx=>?_) (fun nx=>?_) hF).trans ?_
  ·unfold BS at hl;simp only[ZmR,Yc hk,Cq1,Qn hk,Qn (show k<r.length by omega),Bq0,hnx _ (GM hk),ZhU (show k<4611686018427387904 by omega)];cases Qv l[k] (r[k]'V6)<;>rfl
  ·simp[ZmR]
  ·cases Qv l r<;>rfl
 ·have:((l.length:Int) !=(r.length:Int))=true:=by simpa using fun h=>hne V6
  rw[this,Cq1,Za7 fun h=>hne (congrArg _ h)]
def ZyN{F:Nat}(hF:10000000000000000000<=F)(nx:Term×Term->O Z)(B:Nat)(hnx:∀k:Term,(pre (.pr k)).length<B->Zbu (.pr k)->∀y,nx (k,y)=some (Qv k y)):∀n a b,Zbu (.cl a)->(pre (.cl a)).length<=n->n<=B->∀Fr,n<=Fr->loop Fr (Zjg F nx) (a,b)=some (Qv a b):=by
 intro n
 induction n with
 | zero=>intro a b _ hp;have:=Xd (.cl a);omega
 | succ n ih=>
   intro a b hs hp hB Fr hf;obtain⟨m,rfl⟩:∃m,Fr=m+1:=⟨Fr-1,by omega⟩
   rw[Yj];show(bif((((a.form !=b.form)||(!decide (a.text=b.text)))||((a.joins.length:Int) !=(b.joins.length:Int)))||((a.defs.length:Int) !=(b.defs.length:Int))) then some false else loop F (Zjh F a b nx (loop m (Zjg F nx))) 0)=_;by_cases h:a.form=b.form/\a.text=b.text/\a.joins.length=b.joins.length/\a.defs.length=b.defs.length
   ·obtain⟨h1,h2,h3,h4⟩:=h;rw[h1,h2,K9 h3,K9 h4,ZcI,decide_eq_true rfl];simp only[Bool.or_self,QP,Cq0];obtain⟨o1,o2,o3,o4⟩:=Kj hs;have hk:Zpq F nx a.kids b.kids=some (Qv a.kids b.kids):=Zpp hF nx _ _ o4 fun k hk y=>hnx k (by have:=Yb (p:=.cl a) (k:=.pr k) (by simp only[ZM,Q1,G3];exact .inr ⟨k,hk,rfl⟩);omega) (QY hs (by simp only[ZM,Q1,G3];exact .inr ⟨k,hk,rfl⟩)) y
    have hd:loop F (Zgd F a b nx (loop m (Zjg F nx))) 0=bif Qv a.defs b.defs then some (Qv a.kids b.kids) else some false:=by
     refine JI a.defs b.defs h4 o3 (fun k hk nx'=>?_) (fun nx'=>?_) hF
     ·have hmem:Part.cl a.defs[k]∈ZM (.cl a):=by simp only[ZM,Q1,G3];exact .inl ⟨_,GM hk,rfl⟩
      have:=ih a.defs[k] (b.defs[k]'V6) (QY hs hmem) (by have:=Yb hmem;omega) V6 m V6;unfold BS at o3;simp only[Zgd,Yc hk,Cq1,Qn hk,Qn (show k<b.defs.length by omega),Bq0,this,ZhU (show k<4611686018427387904 by omega)];cases Qv a.defs[k] (b.defs[k]'V6)<;>rfl
     ·simp only[Zgd,Yp,Cq0,hk,Bq0]
    refine(JI a.joins b.joins h3 o1 (fin:=loop F (Zgd F a b nx (loop m (Zjg F nx))) 0) (fun k hk nx'=>?_) (fun nx'=>?_) hF).trans ?_
    ·have hm:=Zq7 hF a.joins[k].names (b.joins[k]'V6).names (o2 _ (GM hk));unfold BS at o1;simp only[Zjh,Yc hk,Cq1,Qn hk,Qn (show k<b.joins.length by omega),Bq0,ZhU (show k<4611686018427387904 by omega)]
     have e:Qv a.joins[k] (b.joins[k]'V6)=(decide (a.joins[k].text=(b.joins[k]'V6).text)&&Qv a.joins[k].names (b.joins[k]'V6).names):=by
      rw[Gx,Ba0,Y9,Y9,decide_eq_true_iff];generalize a.joins[k]=u;generalize b.joins[k]'V6=v;cases u;cases v;simp only[Z4.mk.injEq]
     rw[e];by_cases ht:a.joins[k].text=(b.joins[k]'V6).text
     ·rw[decide_eq_true ht];simp only[QP,Gz,gd,Cq1,Bq0,hm,Bool.false_or,GH];cases Qv a.joins[k].names (b.joins[k]'V6).names<;>rfl
     ·rw[decide_eq_false ht];simp only[QP,Gz,gd,Cq0,Cq1,Bq0,Bool.true_or,Bool.false_and]
    ·simp only[Zjh,Yp,Cq0]
    ·rw[hd]
     have:Qv a b=(Qv a.joins b.joins&&(Qv a.defs b.defs&&Qv a.kids b.kids)):=by
      rw[Gx,Ba0,Ba0,Y9,Y9,Y9,Y9];cases a;cases b;simp only[Za.mk.injEq]at *;exact⟨fun h=>h.2.2,fun h=>⟨h1,h2,h⟩⟩
     rw[this];cases Qv a.joins b.joins<;>cases Qv a.defs b.defs<;>rfl
   ·have hne:a≠b:=fun e=>h ⟨by rw[e],by rw[e],by rw[e],by rw[e]⟩
    have:((((a.form !=b.form)||(!decide (a.text=b.text)))||((a.joins.length:Int) !=(b.joins.length:Int)))||((a.defs.length:Int) !=(b.defs.length:Int)))=true:=by
     refine Decidable.byContradiction fun hz=>h ?_
     simp only[Bool.not_eq_true,Ge,bne_eq_false_iff_eq,Bool.not_eq_false',decide_eq_true_eq]at hz;exact⟨hz.1.1.1,hz.1.1.2,by omega,by omega⟩
    rw[this,Cq1,Za7 hne]
def Zur{F:Nat}(hF:10000000000000000000<=F):∀n a b,Zbu (.pr a)->(pre (.pr a)).length<=n->n<=F->∀Fr,n<=Fr->loop Fr (Zg4 F) (a,b)=some (Qv a b):=by
 intro n
 induction n with
 | zero=>intro a b _ hp;have:=Xd (.pr a);omega
 | succ n ih=>
   intro a b hs hp hnF Fr hf;obtain⟨m,rfl⟩:∃m,Fr=m+1:=⟨Fr-1,by omega⟩
   rw[Yj];show(bif(((((a.op !=b.op)||(!decide (a.text=b.text)))||((a.args.length:Int) !=(b.args.length:Int)))||((a.defs.length:Int) !=(b.defs.length:Int)))||((a.kids.length:Int) !=(b.kids.length:Int))) then some false else loop F (Zjt F a b (loop m (Zg4 F))) 0)=_;by_cases h:a.op=b.op/\a.text=b.text/\a.args.length=b.args.length/\a.defs.length=b.defs.length/\a.kids.length=b.kids.length
   ·obtain⟨h1,h2,h3,h4,h5⟩:=h;rw[h1,h2,K9 h3,K9 h4,K9 h5,ZcI,decide_eq_true rfl];simp only[Bool.or_self,QP,Cq0];obtain⟨o1,o3,o4⟩:=Kj hs;have hnx:∀k:Term,(pre (.pr k)).length<(pre (.pr a)).length->Zbu (.pr k)->∀y,loop m (Zg4 F) (k,y)=some (Qv k y):=fun k hk ho y=>ih k y ho V6 V6 m V6
    have hk:Zpq F (loop m (Zg4 F)) a.kids b.kids=some (Qv a.kids b.kids):=Zpp hF _ _ _ o4 fun k hk y=>hnx k (Yb (p:=.pr a) (k:=.pr k) (by simp only[ZM,Q1,G3];exact .inr ⟨k,hk,rfl⟩)) (QY hs (by simp only[ZM,Q1,G3];exact .inr ⟨k,hk,rfl⟩)) y
    have hd:loop F (Zjs F a b (loop m (Zg4 F))) 0=bif Qv a.defs b.defs then some (Qv a.kids b.kids) else some false:=by
     refine JI a.defs b.defs h4 o3 (fun k hk nx'=>?_) (fun nx'=>?_) hF
     ·have hmem:Part.cl a.defs[k]∈ZM (.pr a):=by simp only[ZM,Q1,G3];exact .inl (.inr ⟨_,GM hk,rfl⟩)
      have hlt:=Yb hmem;have:=ZyN hF _ (pre (.pr a)).length hnx (pre (.cl a.defs[k])).length a.defs[k] (b.defs[k]'V6) (QY hs hmem) V7 V6 F V6;unfold BS at o3;simp only[Zjs,ZG8,Yc hk,Cq1,Qn hk,Qn (show k<b.defs.length by omega),Bq0,this,ZhU (show k<4611686018427387904 by omega)];cases Qv a.defs[k] (b.defs[k]'V6)<;>rfl
     ·simp only[Zjs,Yp,Cq0,hk,Bq0]
    refine(JI a.args b.args h3 o1 (fin:=bif Qv a.defs b.defs then some (Qv a.kids b.kids) else some false) (fun k hk nx'=>?_) (fun nx'=>?_) hF).trans ?_
    ·have hmem:Part.ex a.args[k]∈ZM (.pr a):=by simp only[ZM,Q1,G3];exact .inl (.inl ⟨_,GM hk,rfl⟩)
     have hlt:=Yb hmem;have:=Zze hF (pre (.ex a.args[k])).length a.args[k] (b.args[k]'V6) (QY hs hmem) V7 F V6;unfold BS at o1;simp only[Zjt,ZCt,Yc hk,Cq1,Qn hk,Qn (show k<b.args.length by omega),Bq0,this,ZhU (show k<4611686018427387904 by omega)];cases Qv a.args[k] (b.args[k]'V6)<;>rfl
    ·simp only[Zjt,Yp,Cq0,hd]
    ·have:Qv a b=(Qv a.args b.args&&(Qv a.defs b.defs&&Qv a.kids b.kids)):=by
      rw[Gx,Ba0,Ba0,Y9,Y9,Y9,Y9];cases a;cases b;simp only[Term.mk.injEq]at *;exact⟨fun h=>h.2.2,fun h=>⟨h1,h2,h⟩⟩
     rw[this];cases Qv a.args b.args<;>cases Qv a.defs b.defs<;>rfl
   ·have hne:a≠b:=fun e=>h ⟨by rw[e],by rw[e],by rw[e],by rw[e],by rw[e]⟩
    have:(((((a.op !=b.op)||(!decide (a.text=b.text)))||((a.args.length:Int) !=(b.args.length:Int)))||((a.defs.length:Int) !=(b.defs.length:Int)))||((a.kids.length:Int) !=(b.kids.length:Int)))=true:=by
     refine Decidable.byContradiction fun hz=>h ?_
     simp only[Bool.not_eq_true,Ge,bne_eq_false_iff_eq,Bool.not_eq_false',decide_eq_true_eq]at hz;exact⟨hz.1.1.1.1,hz.1.1.1.2,by omega,by omega,by omega⟩
    rw[this,Cq1,Za7 hne]
def same_eq{F:Nat}(hF:10000000000000000000<=F)(a b:Term)(h:Zbu (.pr a))(hp:(pre (.pr a)).length<=F):Zy1 F a b=some (Qv a b):=Zur hF _ a b h V7 hp F hp
def ZBi{p:Part}(h:Uq p=true)(hl:(ZM p).length<=BS):okS p:=by
 cases p with
 | ex e=>simpa[ZM,okS]using hl
 | pr t=>simp only[ZM,K2,Gc]at hl;exact⟨by omega,by omega,by omega⟩
 | cl c=>
   simp only[ZM,K2,Gc]at hl
   have hj:c.joins.length<=3/\∀m∈c.joins,m.names.length<=3:=by
    obtain⟨a,b,_⟩:=Kw h;exact⟨a,b⟩
   exact⟨by unfold BS;omega,fun m hm=>by have:=hj.2 m hm;unfold BS;omega,by omega,by omega⟩
def ZBl{p:Part}(h:(pre p).all Uq=true)(hl:(pre p).length<=60):Zbu p:=fun q hq=>
 ZBi (Ks.1 h q hq) (by have:=Zaw q;have:=KP hq;unfold BS;omega)
def ZBk:Zbu (.pr (.mk 0 (⟨#[]⟩:Y) [] [] [])):=fun q hq=>by
 rw[pre_eq]at hq;rcases Kx.1 hq with rfl|hq
 ·exact⟨GE _,GE _,GE _⟩
 ·simp[ZM]at hq
def ZBp{F:Nat}(hF:10000000000000000000<=F):Zvc F (.mk 0 (⟨#[]⟩:Y) [] [] [])=some true:=by
 unfold Zvc;rw[same_eq hF _ _ ZBk (by rw[Jg];simp[ZM];omega),Zff];rfl
def Zm8{α:Type}[Inhabited α](F:Nat)(nx:α×α->O Z)(l r:U α):O Z:=
 bif((l.length:Int) !=(r.length:Int)) then some false else loop F (fun v next=>bif decide (v<(l.length:Int)) then(YH l v).bind fun x=>(YH r v).bind fun y=>(nx (x,y)).bind fun b=>(bif !b then some false else next (XD (v+1))) else some true) 0
def Zd1{α:Type}[Inhabited α]{F:Nat}(hF:10000000000000000000<=F)(nx:α×α->O Z)(l r:U α)(hl:l.length<=BS)(hnx:∀x∈l,∀y,nx (x,y)=some (Qv x y)):Zm8 F nx l r=some (Qv l r):=by
 unfold Zm8;by_cases hne:l.length=r.length
 ·rw[K9 hne,Cq0];refine(JI l r hne hl (fin:=some true) (fun k hk nx'=>?_) (fun nx'=>?_) hF).trans ?_
  ·unfold BS at hl;simp only[Yc hk,Cq1,Qn hk,Qn (show k<r.length by omega),Bq0,hnx _ (GM hk),ZhU (show k<4611686018427387904 by omega)];cases Qv l[k] (r[k]'V6)<;>rfl
  ·simp
  ·cases Qv l r<;>rfl
 ·have:((l.length:Int) !=(r.length:Int))=true:=by simpa using fun h=>hne V6
  rw[this,Cq1,Za7 fun h=>hne (congrArg _ h)]
def ZuM{F:Nat}(hF:10000000000000000000<=F)(l r:U Y)(hl:l.length<=BS):Zjv F l r=some (Qv l r):=by
 unfold Zjv;by_cases hne:l.length=r.length
 ·rw[K9 hne,Cq0];refine(JI l r hne hl (fin:=some true) (fun k hk nx=>?_) (fun nx=>?_) hF).trans ?_
  ·unfold BS at hl;simp only[ZhE,Yc hk,Cq1,Qn hk,Qn (show k<r.length by omega),Bq0,ZhU (show k<4611686018427387904 by omega)];by_cases e:l[k]=r[k]'V6
   ·rw[Y9.2 e];simp[e]
   ·rw[Za7 e];simp[e]
  ·simp[ZhE]
  ·cases Qv l r<;>rfl
 ·have:((l.length:Int) !=(r.length:Int))=true:=by simpa using fun h=>hne V6
  rw[this,Cq1,Za7 fun h=>hne (congrArg _ h)]
def ZBr(a b:Z4):Qv a b=(decide (a.text=b.text)&&Qv a.names b.names):=by
 rw[Gx,Ba0,Y9,Y9,decide_eq_true_iff];cases a;cases b;simp only[Z4.mk.injEq]
def ZCM(a b:Zg):Qv a b=((((a.op==b.op)&&(a.n==b.n))&&decide (a.text=b.text))&&Qv a.kids b.kids):=by
 rw[Gx,Ba0,Ba0,Ba0,Y9,Y9,decide_eq_true_iff,beq_iff_eq,beq_iff_eq];cases a;cases b;simp only[Zg.mk.injEq,and_assoc]
def ZHQ(a b:Za):Qv a b=((((a.form==b.form)&&decide (a.text=b.text))&&Qv a.joins b.joins)&&(Qv a.defs b.defs&&Qv a.kids b.kids)):=by
 rw[Gx];simp only[Ba0,Y9,decide_eq_true_iff,beq_iff_eq];cases a;cases b;simp only[Za.mk.injEq,and_assoc]
def ZFB(a b:Term):Qv a b=(((a.op==b.op)&&decide (a.text=b.text))&&(Qv a.args b.args&&(Qv a.defs b.defs&&Qv a.kids b.kids))):=by
 rw[Gx];simp only[Ba0,Y9,decide_eq_true_iff,beq_iff_eq];cases a;cases b;simp only[Term.mk.injEq,and_assoc]
def Zw2{F:Nat}(hF:10000000000000000000<=F)(l r:U Z4)(hl:l.length<=BS)(hn:∀m∈l,m.names.length<=BS):Zjx F l r=some (Qv l r):=by
 refine(show Zjx F l r=Zm8 F (fun p=>Zjw F p.1 p.2) l r from rfl).trans (Zd1 hF _ l r hl fun x hx y=>?_);show Zjw F x y=_;unfold Zjw;rw[ZBr];cases h:decide (x.text=y.text) with
 | false=>rfl
 | true=>
   show((Zjv F x.names y.names).bind fun x5=>some (true&&x5))=_;rw[ZuM hF _ _ (hn x hx)];rfl
def ZCL{F:Nat}(hF:10000000000000000000<=F):∀n a,Zbu (.ex a)->ln (.ex a)<=n->∀Fr,n<=Fr->∀b,loop Fr (Zb7 F) (a,b)=some (Qv a b):=by
 intro n
 induction n with
 | zero=>intro a _ hp;have:=Xd (.ex a);unfold ln at hp;omega
 | succ n ih=>
   intro a hs hp Fr hf b;obtain⟨m,rfl⟩:∃m,Fr=m+1:=⟨Fr-1,by omega⟩
   rw[Yj];have hk:=Zd1 hF (loop m (Zb7 F)) a.kids b.kids (Kj hs) fun x hx y=>ih x (QY hs (XC hx)) (by have:=Yb (XC hx);unfold ln at hp ⊢;omega) m V6 y
   show(bif(((a.op==b.op)&&(a.n==b.n))&&(decide (a.text=b.text))) then(Zm8 F (loop m (Zb7 F)) a.kids b.kids).bind fun x7=>some x7 else some false)=_;rw[hk,ZCM];cases (((a.op==b.op)&&(a.n==b.n))&&(decide (a.text=b.text)))<;>rfl
def ZHP{F:Nat}(hF:10000000000000000000<=F)(nx:Term×Term->O Z)(B:Nat)(hnx:∀k:Term,ln (.pr k)<B->Zbu (.pr k)->∀y,nx (k,y)=some (Qv k y)):∀n a,Zbu (.cl a)->ln (.cl a)<=n->n<=B->∀Fr,n<=Fr->∀b,loop Fr (Zb6 F nx) (a,b)=some (Qv a b):=by
 intro n
 induction n with
 | zero=>intro a _ hp;have:=Xd (.cl a);unfold ln at hp;omega
 | succ n ih=>
   intro a hs hp hB Fr hf b;obtain⟨m,rfl⟩:∃m,Fr=m+1:=⟨Fr-1,by omega⟩
   rw[Yj];obtain⟨o1,o2,o3,o4⟩:=Kj hs;have hj:=Zw2 hF a.joins b.joins o1 o2;have hd:=Zd1 hF (loop m (Zb6 F nx)) a.defs b.defs o3 fun x hx y=>ih x (QY hs (XO hx)) (by have:=Yb (XO hx);unfold ln at hp ⊢;omega) V6 m V6 y
   have hk:=Zd1 hF nx a.kids b.kids o4 fun x hx y=>hnx x (by have:=Yb (Y3 hx);unfold ln at hp ⊢;omega) (QY hs (Y3 hx)) y
   show((gd ((a.form==b.form)&&(decide (a.text=b.text))) (Zjx F a.joins b.joins) default).bind fun x6=>(bif(((a.form==b.form)&&(decide (a.text=b.text)))&&x6) then(Zm8 F (loop m (Zb6 F nx)) a.defs b.defs).bind fun x8=>(bif x8 then(Zm8 F nx a.kids b.kids).bind fun x12=>some x12 else some false) else some false))=_;rw[hj,hd,hk,ZHQ];cases ((a.form==b.form)&&(decide (a.text=b.text))) with
   | false=>rfl
   | true=>cases Qv a.joins b.joins<;>cases Qv a.defs b.defs<;>rfl
def ZFA{F:Nat}(hF:10000000000000000000<=F):∀n a,Zbu (.pr a)->ln (.pr a)<=n->n<=F->∀Fr,n<=Fr->∀b,loop Fr (ZeW F) (a,b)=some (Qv a b):=by
 intro n
 induction n with
 | zero=>intro a _ hp;have:=Xd (.pr a);unfold ln at hp;omega
 | succ n ih=>
   intro a hs hp hnF Fr hf b;obtain⟨m,rfl⟩:∃m,Fr=m+1:=⟨Fr-1,by omega⟩
   rw[Yj];obtain⟨o1,o3,o4⟩:=Kj hs;have hnx:∀k:Term,ln (.pr k)<ln (.pr a)->Zbu (.pr k)->∀y,loop m (ZeW F) (k,y)=some (Qv k y):=fun k hk ho y=>ih k ho V6 V6 m V6 y
   have ha:=Zd1 hF (loop F (Zb7 F)) a.args b.args o1 fun x hx y=>ZCL hF (ln (.ex x)) x (QY hs (Ju hx)) V7 F (by have:=Yb (Ju hx);unfold ln at hp ⊢;omega) y
   have hd:=Zd1 hF (loop F (Zb6 F (loop m (ZeW F)))) a.defs b.defs o3 fun x hx y=>ZHP hF _ (ln (.pr a)) hnx (ln (.cl x)) x (QY hs (Qq hx)) V7 (by have:=Yb (Qq hx);unfold ln;omega) F (by have:=Yb (Qq hx);unfold ln at hp ⊢;omega) y
   have hk:=Zd1 hF (loop m (ZeW F)) a.kids b.kids o4 fun x hx y=>hnx x (by have:=Yb (Xr hx);unfold ln;omega) (QY hs (Xr hx)) y
   show(bif((a.op==b.op)&&(decide (a.text=b.text))) then(Zm8 F (loop F (Zb7 F)) a.args b.args).bind fun x7=>(bif x7 then(Zm8 F (loop F (Zb6 F (loop m (ZeW F)))) a.defs b.defs).bind fun x11=>(bif x11 then(Zm8 F (loop m (ZeW F)) a.kids b.kids).bind fun x15=>some x15 else some false) else some false) else some false)=_;rw[ha,hd,hk,ZFB];cases ((a.op==b.op)&&(decide (a.text=b.text)))<;>cases Qv a.args b.args<;>cases Qv a.defs b.defs<;>rfl
def ZFt{F:Nat}(hF:10000000000000000000<=F)(a b:Term)(h:Zbu (.pr a))(hp:ln (.pr a)<=F):ZCq F a b=some (Qv a b):=ZFA hF _ a h V7 hp F hp b
def Zk0{t:Term}(h:Q7 AgW (.pr t)=true):Zbu (.pr t):=ZBl (JA h).1 (JA h).2
def ZDd{F:Nat}(hF:10000000000000000000<=F)(a b:Term)(hs:Lo (.pr a))(hb:Lo (.pr b))(hFa:ln (.pr a)<=F)(hFb:ln (.pr b)<=F):Zvb F a b=some (bif Q7 AgW (.pr a)&&Q7 AgW (.pr b) then(Qv (UF a) (UF b),(0:Int)) else(false,2)):=by
 unfold Zvb;rw[Zc0 hF a hs hFa,Zc0 hF b hb hFb,Bq0];cases h:Q7 AgW (.pr a) with
 | false=>rfl
 | true=>
   cases h2:Q7 AgW (.pr b) with
   | false=>rfl
   | true=>
     obtain⟨a1,a2⟩:=JA h;obtain⟨b1,b2⟩:=JA h2;obtain⟨c1,c2,_⟩:=ZtU h;simp only[Cq1,Bool.and_self];rw[ZjQ hF a a1 a2,ZjQ hF b b1 b2,Bq0,Bq0,ZFt hF _ _ (Zk0 c1) V6]
     rfl
def ZDo{p:Part}(h:(pre p).all Uq=true)(hn:ln p<=60):Lo p:=fun q hq=>by
 have hs:=Ks.1 h q hq;have hk:(ZM q).length<=60:=by have:=Zaw q;have:=KP hq;unfold ln at hn;omega
 have hname:∀s:Y,Xl s=true->s.size<=BB:=fun s hs=>by have:=ZiA hs;unfold BB;omega
 have hE0:E0.size<=BB:=GE _;cases q with
 | ex e=>
   refine⟨?_,by simp only[ZM,Gc]at hk;unfold BB;omega⟩;have hs:Wl e=true:=hs;unfold Wl at hs;cases h1:e.op==1<;>rw[h1]at hs
   ·cases h2:e.op==2<;>rw[h2]at hs
    ·simp only[Cq0,Ba0,decide_eq_true_eq]at hs;rw[hs.1.1.2];exact hE0
    ·simp only[Cq0,Cq1,Ba0]at hs;exact hname _ hs.1.1
   ·simp only[Cq1,Ba0,decide_eq_true_eq]at hs;rw[hs.1.2];exact hE0
 | pr t=>
   simp only[ZM,K2,Gc]at hk;refine⟨?_,by unfold BB;omega,by unfold BB;omega,by unfold BB;omega⟩;have hs:K8 t=true:=hs;unfold K8 at hs;rw[Ba0]at hs;have h2:=hs.2;cases hb:((t.op==2)||(t.op==6))||(t.op==8)<;>rw[hb]at h2<;>simp only[Cq1,Cq0,decide_eq_true_eq]at h2
   ·rw[h2];exact hE0
   ·exact hname _ h2
 | cl c=>
   simp only[ZM,K2,Gc]at hk;have hs:UD c=true:=hs;obtain⟨j1,j2,_⟩:=Kw hs
   have hj:∀m∈c.joins,m.text.size<=BB/\m.names.length<=BB/\∀x∈m.names,x.size<=BB:=fun m hm=>by
    unfold UD at hs;rw[Ba0]at hs;cases h2:c.form==2<;>rw[h2]at hs<;>simp only[Cq1,Cq0,Ba0,beq_iff_eq]at hs
    ·obtain⟨w1,_⟩:=(Zmu _ _ _).1 hs.2.2;obtain⟨a1,_,a3,a4⟩:=w1 m hm;exact⟨hname _ a1,by unfold BB;omega,fun x hx=>hname _ (a4 x hx).1⟩
    ·rw[G9 hs.2.1.2]at hm;cases hm
   have ht:c.text.size<=BB:=by
    unfold UD at hs;rw[Ba0]at hs;cases h2:c.form==2<;>rw[h2]at hs<;>simp only[Cq1,Cq0,Ba0,beq_iff_eq,decide_eq_true_eq]at hs
    ·rw[hs.2.1.1.1.1.2];exact hE0
    ·exact hname _ hs.2.1.1
   exact⟨ht,by unfold BB;omega,by unfold BB;omega,by unfold BB;omega,hj⟩
def Zj8{F:Nat}(hF:10000000000000000000<=F)(t:Term)(hs:Lo (.pr t))(hFp:ln (.pr t)<=F):Zve F t=some true:=by
 unfold Zve;rw[ZtT hF t hs hFp,Bq0];cases h:Q7 AgW (.pr t) with
 | false=>
   simp only[Cq0];rw[show((2:Int) !=0)=true from rfl,Cq1,ZBp hF,Bq0]
   rfl
 | true=>
   obtain⟨c1,c2,c3,c4,c5⟩:=ZtU h;obtain⟨b1,b2⟩:=JA c1;have hlc:Lo (.pr (UF t)):=ZDo b1 b2;have hFc:ln (.pr (UF t))<=F:=V6
   have e1:=ZtT hF (UF t) hlc hFc;have e2:=ZDd hF t (UF t) hs hlc hFp hFc;have e3:=same_eq hF (UF t) (UF t) (Zk0 c1) hFc;have e4:=Zym hF t hs hFp;have e5:=Zym hF (UF t) hlc hFc;have e6:=ZsS hF t hs hFp;have e7:=ZsS hF (UF t) hlc hFc;have e8:=ZtQ hF t hs hFp;have e9:=ZtQ hF (UF t) hlc hFc;have hfl:(Zdp t).length<=60:=by have:=Zkj t;have:=(JA h).2;omega
   have e10:=Zq8 (F:=F) (Zdp t) V6 V6;rw[c1,c5]at e1;rw[h,c1,c5,Zff]at e2;rw[Zff]at e3;rw[h]at e4 e6 e8;rw[c1,c4]at e5;rw[c1,show(pre (.pr (UF t))).length=(pre (.pr t)).length from c2]at e7;rw[c1,c3]at e9;have nz:((0:Int) !=0)=false:=rfl;have zz:((0:Int)==0)=true:=rfl;have g1:∀{α:Type}(m:O α)(d:α),gd true m d=m:=fun _ _=>rfl
   simp only[Cq1,Cq0,nz,zz,e1,e2,e3,e4,e5,e6,e7,e8,e9,e10,Bq0,Bool.and_self,Bool.or_self,Gz,QP,g1,beq_self_eq_true]
   rfl
def Zj9(t:Term)(hs:Lo (.pr t)):Zve (Ztj t) t=some true:=Zj8 (by unfold Ztj;omega) t hs (by unfold Ztj ln;omega)
end
section
open Go.ChangeShapes Go.WideShapes Go.ChangeAt Go.RowKit Go.ZK Go.Lf
def ZNH:Wd XX.P Zv Zfz 33:=ZJd
def ZuT(H:Type)(enc:J×N->H)(W:GY){v0:N}{d0:DataW H}{p0:U MemPlace}
 (hv0:∃cs,v0=.agg cs)
 (h0:DataW.Trod enc Tryz.prog W 0 (fun _=>true) true 33 v0 d0 p0):
 Calls Tryz.prog 11 #[v0] W fun e W'=>e=.returned (.bool true)/\Below W.heap.size W W':=by
 obtain⟨g0,h0⟩:=h0;obtain⟨c0,rfl⟩:=hv0
 obtain⟨ρ,hp,els,r1,r2,r3,r4⟩:=ZCS (P:=Tryz.prog) (W:=W) [(33,(Value.agg c0).cells.toList,d0)] (fun x hx=>by
  simp only[Kx,Gi,or_false]at hx;subst hx;exact ZO7 Zwh g0 33 _ d0 p0 (by decide) h0)
 match els,r3,r4 with
 | [e0],_,r4=>
   obtain⟨q0,a0⟩:=r4 0 e0 _ rfl rfl;obtain⟨m0,x0,z0,w0,F0⟩:=ZNH.2 a0;rw[z0]at q0;have L0:=ZBw (F0 hp.size) w0;replace F0:=fun wm=>Jf.1 (F0 wm)
   obtain⟨ZPU,ZPT,ZPS⟩:=F0 hp.size;have hj:Ym XX _ _:=ZHy (F:=(Ztj x0)) (r:=true) ZPU ZPT ZPS (Zj9 x0 L0) hp.size
   have hc:=ZkG (hj ρ #[.agg c0] W V7 r1 ⟨rfl,fun i v v' e1 e2=>by
    match i with
    | 0=>
      simp at e1 e2;subst e1 e2;exact ZAR q0
    | i+1=>simp at e1⟩)
   refine hc.mono fun e w' ⟨ρ',he,_,st⟩=>⟨?_,st.below fun i b d _ _ ho=>by rw[r2 i]at ho;cases ho⟩
   cases he with
   | ret hv=>cases hv;rfl
def Zxg:laidOutB Tryz.prog=true:=Kq0
def ZBz:ownKnob Tryz.prog.godebug=none:=Kq0
def Zrb(os:Os)(started:os.Started)(H:Type)(enc:J×N->H):
 ReturnsInHanded {} Tryz.checked os 11 .any (Rows.termCanonsSpec.pre6 enc Tryz.prog Tryz.f11 Rows.termCanonsRow.domain false) (Rows.termCanonsSpec.post enc Tryz.prog Tryz.f11 false true false false):=by
 refine returnsInHanded_of_change (C:=Tryz.checked) ZBz started Kq0 Tryz.func11
  (ChangeSpec.witness6 (enc:=enc) (C:=Tryz.checked) false ⟨#[],#[.agg #[V4 0,.string ⟨#[]⟩,V3,V3,V3]],[]⟩ 8 Kq0 Kq0 Kq0 Kq0) ?_
 intro W base args ds gs before hval0 hW hcnd _;have hval:∀(j:Nat) t v,Tryz.f11.params[j]? =some t->args[j]? =some v->Value.okWide Tryz.prog W .any base t v:=hval0;have hW':=hW;obtain⟨p,q,hA0,hV,rfl,hfz,hnd⟩:=hW;have hA:DataW.TrodAll enc Tryz.prog W 0 (fun _=>true) true Tryz.f11.params.toList args.toList ds p:=hA0;rw[Tryz.params11]at hA hval;obtain⟨v0,d0,rfl,rfl,h0⟩:=trodAll_one hA;obtain⟨rfl,rfl⟩:=trodVars_none hV;clear hA0 hval0;simp only[Gj]at hW';have k0:=hval 0 33 v0 rfl rfl;have o0:∃cs,v0=.agg cs:=by obtain⟨cs,hcs,_⟩:=okWide_struct Tryz.underlying33 k0;exact⟨cs,hcs⟩
 have hlt:∀x∈p,x.block<W.heap.size:=fun x hx=>hW'.lt x hx
 refine(ZuT H enc W o0 h0).mono fun e W' ⟨he,hg⟩=>?_
 subst he
 exact⟨_,rfl,Zkl (pa:=p) (pv:=[]) hW' (fun _ _ _=>(trodAll_cons_mk (shut_bool Tryz.underlying4 _) trodAll_mk0))
  (fun sp hsp=>trodAll_mk1 (WideElems.Trod_stays Zxg Kq0 (of_decide_eq_true Kq0) h0 (fun x hx=>hg.same (hlt x (hx))) (fun x hx=>hsp x (hx)))) (fun _ _=>rfl) (by simp)
  hg (ok_one Kq0 rfl (okWide_bool_mk Tryz.underlying4 _))⟩
def Zxf:Rows.termCanonsRow.holds Tryz.pinned (OpenSpec.ofChange Rows.termCanonsSpec):=
 OpenClaim.holds_of_wide 11 Tryz.f11 rfl rfl rfl rfl rfl rfl rfl ⟨rfl,rfl,rfl,rfl,rfl⟩ rfl rfl rfl rfl rfl Kq0 Tryz.func11 Kq0
  (of_decide_eq_true Kq0) (by unfold Func.isWrapper;first | (rw[if_pos (by decide +kernel)];kernel_rfl) | (rw[if_neg (by decide +kernel)];exact⟨rfl,rfl⟩))
  (fun os started H enc _=>Zrb os started H enc)
theorem law_holds:Rows.TermCanonsSaid:=Zxf
#print axioms law_holds
end
end Go.Proofs.YtbnepjakjmnadaaGreat
end
end
