/- Part 11. -/
import Derived.Laws.Strings
import Derived.Test.YtbnepjakjmnadaaGreatCa10
set_option linter.all false
set_option maxHeartbeats 2000000
section
noncomputable section
namespace Go.Yj
open Go.Lf
variable {X:Ctx} {P:Program} {h:H} {ev:Operand ->Option Value} {d:Option Tmp} {ty:TypeId} {p:String} {af:Array Edge} {g:Option (Nat×Bool)}
theorem Wu {x:Operand} {t:TypeId} {s:ByteArray} (hu:X.P.underlying t=some .string) (hx:ev x=some (.string s)):
 XG X h ev ⟨d,.call {callee:= .builtin .len,args:=#[x],argTypes:=#[t]},ty,p,af,g⟩=some (.val (.int .i64 (s.size:Int)),.none):=by
 have he:evs ev [x]=some [.string s]:=Zf hx Zm;rw [UN]
 show(match evs ev [x] with
  | some args=>UO X.P h .len #[t] ty args
  | none=>none)=_
 rw [he];show vN (Zog X.P h t (.string s))=_;unfold Zog;rw [hu];rfl
theorem Zb5 {x y:Operand} {t:TypeId} {s:ByteArray} {i z:Int} (hu:X.P.underlying t=some .string) (hx:ev x=some (.string s)) (hy:ev y=some (.int .i64 i)) (hz:Ze6 s i=some z):
 XG X h ev ⟨d,.index t x y,ty,p,af,g⟩=some (.val (.int .u8 z),.none):=by
 show(match ev x,ev y with
  | some x,some i=>bif plain x && plain i then pN (K8 X.P (Instr.index t x i)) else vN (ZfV X.P t x i)
  | _,_=>none)=_
 rw [hx,hy];show pN (K8 X.P (Instr.index t (.string s) (.int .i64 i)))=_
 have:ZX X.P (Instr.index t (.string s) (.int .i64 i))=some (.ok (.int .u8 z)):=by
  unfold Instr.index;show ZX X.P (underlying t >>=_)=_;rw [prb (Xv hu)];unfold Ze6 at hz;dsimp only;generalize (if 0 <=i then s[i.toNat]? else none)=o at hz ⊢;cases o with
  | some b=>cases hz;rfl
  | none=>cases hz
 unfold K8;rw [this];rfl
theorem ZAL (a b:ByteArray):(a==b)=decide (a=b):=by
 rw [Bool.eq_iff_iff,decide_eq_true_iff];cases a with | mk a=>cases b with | mk b=>
 show(a==b)=true↔_;simp
theorem ZBW (a b:ByteArray):(a.toList==b.toList)=decide (a=b):=by
 rw [Bool.eq_iff_iff,decide_eq_true_iff,beq_iff_eq,ByteArray.toList_eq,ByteArray.toList_eq];exact⟨fun e=>by cases a;cases b;simp at e;simp [e],fun e=>by rw [e]⟩
theorem Zun {op:BinOp} {t:TypeId} {x y:Operand} {a b:ByteArray} {r:Bool} (ho:Op.stringOp op a b=pure (.bool r)) (hq:op= .eql∨op= .neq∨op= .lss):Ui P op t x y (.string a) (.string b)=some (.val (.bool r),.none):=by
 have hp:(plain (.string a) && plain (.string b))=true:=rfl;unfold Ui;rw [hp,Cq1]
 have hb:binOp op t (.string a) (.string b)=pure (.bool r):=by
  rcases hq with rfl | rfl | rfl <;> exact ho
 have hg:(do eqGuard op t x y (.string a) (.string b);binOp op t (.string a) (.string b):Sem Value)=pure (.bool r):=by
  rw [hb];rcases hq with rfl | rfl | rfl <;> rfl
 rw [hg];rfl
theorem JZ {t:TypeId} {x y:Operand} {a b:ByteArray}:Ui P .eql t x y (.string a) (.string b)=some (.val (.bool (decide (a=b))),.none):=Zun (by rw [← ZBW];rfl) (.inl rfl)
theorem Ze4.str {kt:TypeId} (hu:P.underlying kt=some .string):Ze4 P kt Value.string where
 pl:=fun _=>rfl
 ok:=fun e x=>by
  unfold Zay;rw [show(10000:Nat)=9999 + 1 from rfl,ZAv hu];rfl
 same:=fun x=>by simp [Instr.sameBits,ZAL]
 eq:=fun x y=>by
  have:=ZAm (P:=P) (d:=9999) (a:=x) (b:=y) hu;rw [ZAL] at this;exact this
 kind:= ⟨_,hu,.inr fun x y=>by simp only [Instr.sameNow,ZAL]⟩
end Go.Yj
end
end
section
noncomputable section
namespace Go.Yj
open Go.Lf
variable {X:Ctx} {n wm:Nat} {rd:Option Nat} {ops:Array Oper} {l:List Oper} {rest:Code} {bs:List Nat}
variable {G Gr:List (Ast wm)} {h h0:H} {T0:Nat ->Prop} {fr:Fr} {ds:List Deferred} {ty:TypeId} {p:String} {af:Array Edge} {g:Option (Nat×Bool)} {κ ν:Type} {kv:κ ->Value} {vv:ν ->Value} {ll:List (κ×ν)} {d:Nat}
theorem At.rk {it:Nat} {h h2:H} {b o:Nat} {vs:List Value} (s:At h b o vs) (k:RK it h h2):At h2 b o vs:=by
 obtain⟨cs,own,z,h1,h2',h3⟩:=s;obtain⟨a,b',c,d,e1⟩:=k.it_;exact⟨cs,own,z,by rw [k.at_ b fun z'=>(by rw [z',e1] at h1;cases h1)];exact h1,h2',h3⟩
theorem WL.ZBU {Q:XX ->Fs ->Prop} {id:Nat} {o:Oper} {t it m Qm:Nat} {bs:List Nat} {b:κ ->ν ->Option Bool} {q:Bool} (T:List Nat) (v:Value) (hq:Zij b ll=some q) (hS:Sp wm T0 h0 G h) (pi:Pk G (ob wm it (.iter m Qm Qm none)) Gr) (hat:fr.at t= .pointer (some ⟨it,0,none⟩)) (hm:h.at m= .map (XM kv vv ll bs) Qm) (hb:bs.length=ll.length∧bs.Nodup∧∀ x ∈ bs,x < Qm)
 (hops:ops.toList=o::l) (hop:o.op= .next (.tmp t) false) (hgu:o.guard=none) (hd:o.dst=some d) (hdn:Nat.blt d n=true) (hT:T.contains t=false) (hdT:T.contains d=true) (hv:plain v=true)
 (body:∀ (x:κ×ν) (p:Bool),b x.1 x.2=some p ->∀ h2 fr',Agr T fr fr' ->RK it h h2 ->Sp h.size (Qc ([]:List (Ast h.size))) h2 [] h2 ->ZwS kv vv h2 it x ->WO X n h.size rd ops l ⟨Tr.set fr' d (.tuple #[.bool true,kv x.1,vv x.2]),ds,h2,none⟩ (Zh X n h.size rd rest (Zos T fr' ds v p)))
 (over:q=false ->∀ h' fr',Agr T fr fr' ->Sp wm T0 h0 Gr h' ->WO X n wm rd ops l ⟨Tr.set fr' d (.tuple #[.bool false]),ds,h',none⟩ (Zh X n wm rd rest (ZwR Q)))
 (Yn:q=true ->∀ h' fr',Agr T fr fr' ->Sp wm T0 h0 Gr h' ->Q (.panic v) ⟨fr',ds,h',none⟩):WL X n wm rd (.seq (.region id ops false) rest) ⟨fr,ds,h,none⟩ Q:=by
 obtain⟨hb1,hb2,hb3⟩:=hb;obtain⟨o1,o2,o3⟩:=hS.get pi;obtain⟨m1,m2⟩:=Zgp hq
 have Zzb:Agr T fr (Yq T fr):=fun t' v' ht' hv'=>by
  rw [Xi,if_neg (fun z=>by rw [← List.contains_iff_mem] at z;rw [z] at ht';cases ht'),hv']
 have htT:t ∉ T:=fun z=>by rw [← List.contains_iff_mem] at z;rw [z] at hT;cases hT
 have ZGP:d ∈ T:=List.contains_iff_mem.1 hdT;have ZGE:m ≠ it:=fun z=>by rw [z,o1] at hm;cases hm
 classical
 let pn:Nat ->Bool:=fun bn=>decide (∃ (j:Nat) (y:κ×ν),ll[j]? =some y∧bs[j]? =some bn∧b y.1 y.2=some true)
 have Zjh:∀ (j:Nat) (y:κ×ν) (bn:Nat),ll[j]? =some y ->bs[j]? =some bn ->∀ p,b y.1 y.2=some p ->pn bn=p:=by
  intro j y bn h1 h2 p hp;cases p with
  | true=>exact decide_eq_true ⟨j,y,h1,h2,hp⟩
  | false=>
    refine decide_eq_false ?_;rintro⟨j',y',h1',h2',hp'⟩
    have hj:j'=j:=by
     obtain⟨q1,e1⟩:=Li0 h2';obtain⟨q2,e2⟩:=Li0 h2;exact(List.getElem_inj hb2).1 (e1.trans e2.symm)
    subst hj;rw [h1] at h1';cases h1';rw [hp] at hp';cases hp'
 have ZxM:Sp wm T0 h0 Gr (h.put it .dead):=
  Sp.step (Ga:= [ob wm it (.iter m Qm Qm none)]) (Gb:= []) (hS.perm pi.perm) (Up.put o2 (by rw [o1];rfl)) (fun i e=>⟨_,List.mem_singleton.2 rfl,e⟩) Yx.nil fun i ⟨A,mm,f⟩=>by simp at mm
 have ZgE:∀ x ∈ XM kv vv ll bs,∃ ex s3,(s3.ds=ds∧(∀ t,t ∉ T ->s3.fr.at t=fr.at t)∧(ex= .normal∧pn x.born=false∨ex= .panic v∧pn x.born=true))∧∀ {ρ:Ren} {F:Fence} {a:Act} {w:World},Inv ρ n {fr:=QZ (Yq T fr) o.dst (.tuple #[.bool true,x.key,x.val]),ds:=ds,h:=h.put it (.iter m Qm Qm (some x.born)),wr:=none} a w ->h.size <= (h.put it (.iter m Qm Qm (some x.born))).size ->Kl ρ rd F ->∀ Q':Exit ->Act ->World ->Prop,
  (∀ e' a' w',Xu h.size n ρ (h.put it (.iter m Qm Qm (some x.born))) w ex s3 e' a' w' ->Q' e' a' w') ->wpListIn F 0 X.P ops (Exit.then (rest.wpIn F 0 X.P Q') Q') l a w:=by
  intro x hx;obtain⟨j,y,bn,h1,h2,rfl⟩:=Zlb hx;obtain⟨p,hp⟩:=m1 y (List.mem_iff_getElem?.2 ⟨j,h1⟩);have hpn:=Zjh j y bn h1 h2 p hp;have hsz:(h.put it (.iter m Qm Qm (some bn))).size=h.size:=H.size_put _ _ _;have e1:(h.put it (.iter m Qm Qm (some bn))).at it= .iter m Qm Qm (some bn):=Xj (JN o1 rfl) _;have e2:(h.put it (.iter m Qm Qm (some bn))).at m= .map (XM kv vv ll bs) Qm:=by rw [Jt ZGE,hm]
  have hent:ZwS kv vv (h.put it (.iter m Qm Qm (some bn))) it y:=by
   unfold ZwS ZcW;simp only [e1,e2,Nat.beq_refl,Cq1,Zik hb2 h1 h2]
  obtain⟨ex,s3,⟨q1,q2,q3⟩,q4⟩:=WO.body (body y p hp (h.put it (.iter m Qm Qm (some bn))) (Yq T fr) Zzb ⟨⟨_,_,_,_,o1⟩,fun i hi=>Jt hi _⟩ (Sp.start (Nat.le_of_eq hsz.symm) Yx.nil) hent);refine⟨ex,s3,⟨q1,fun t' ht'=>?_,?_⟩,?_⟩
  ·rw [q2 t' ht',Xi,if_neg ht']
  ·dsimp only;rw [hpn];exact q3
  ·rw [hd];intro ρ F a w i1 i2 i3 Q' i4;exact q4 i1 i2 i3 Q' i4
 have key:=fun(e:XX) (s2:Fs)=>Zr7 (X:=X) (n:=n) (wm:=wm) (rd:=rd) (rest:=rest) (id:=id) (s:= ⟨fr,ds,h,none⟩) (e:=e) (s2:=s2) (T:=T) (v:=v) pn hops hop hgu hat o1 hm (Nat.le_refl _) (Zgq hb2 hb3) o2 htT hd (by rwa [Nat.blt_eq] at hdn) ZGP hv ZgE
 cases q with
 | true=>
   refine⟨.panic v,⟨Yq T fr,ds,h.put it .dead,none⟩,Yn rfl _ _ Zzb ZxM,key _ _ (fun hall=>?_) fun _=>⟨rfl,rfl⟩⟩;exfalso;obtain⟨y,hy,hyb⟩:=m2.1 rfl;obtain⟨j,hj⟩:=List.mem_iff_getElem?.1 hy;have hjl:= (Li0 hj).1;have h2:bs[j]? =some (bs[j]'(by omega)):=List.getElem?_eq_getElem _;have:=hall _ (Zvd hj h2);rw [Zjh j y _ hj h2 true hyb] at this;cases this
 | false=>
   obtain⟨e,s2,⟨q1,q2⟩,q3⟩:=WO.body (over rfl _ _ Zzb ZxM);refine⟨e,s2,q2,key e s2 (fun _=>⟨q1,?_⟩) fun⟨x,hx,hp⟩=>?_⟩
   ·rw [hd];intro ρ F a w i1 i2 i3 Q' i4;exact q3 i1 i2 i3 Q' i4
   ·exfalso;obtain⟨j,y,bn,h1,h2,rfl⟩:=Zlb hx;obtain⟨p,hp'⟩:=m1 y (List.mem_iff_getElem?.2 ⟨j,h1⟩);have hpn:=Zjh j y bn h1 h2 p hp';rw [show pn bn=true from hp] at hpn;subst hpn;exact absurd (m2.2 ⟨y,List.mem_iff_getElem?.2 ⟨j,h1⟩,hp'⟩) (by simp)
theorem YS.Zhl {T:Nat ->Prop} {df:Nat} {fn:Func} {pm:PM} {R:Uo ->H ->Prop} (hS:Sp wm T h0 G h) (pk:Pk G (ob wm df .deferred) Gr) (k:∀ h',Sp wm T h0 Gr h' ->YS X fn wm R pm ⟨fr,ds,h',none⟩):YS X fn wm R pm ⟨fr,⟨.collected df,#[]⟩::ds,h,none⟩:=by
 obtain⟨h1,h2,h3⟩:=hS.get pk;have hu:Up wm (fun i=>i=df) h (h.put df .dead):=Up.put h2 (by rw [h1];rfl);obtain⟨E,h',hR,hj⟩:=k _ (Sp.step (Ga:= [ob wm df .deferred]) (Gb:= []) (hS.perm pk.perm) hu (fun i e=>⟨_,List.mem_singleton.2 rfl,e⟩) Yx.nil fun i ⟨A,m,f⟩=>by simp at m);exact⟨E,h',hR,Zio h1 h2 hj⟩
section
variable {fn:Func} {R:Uo ->H ->Prop} {s:Fs} {v:Value} {pm:PM}
theorem YS.Zwm {f:FuncId} {fn2:Func} {c:Code} {Yr:List Value} {n2:Nat} (hf:X.fns.get f=some fn2) (hb:fn2.body=some c) (hnt:fn2.ntmps=n2) (hn:Yr.length <=n2) (hr:fn2.results.toList= [])
 (k:DC X n2 wm c pm ⟨XQ Yr 0 .nil,[],h,none⟩ (DEn X fn wm R fr ds)):YS X fn wm R pm ⟨fr,⟨.fn (.func f) #[],Yr.toArray⟩::ds,h,none⟩:=by
 subst hnt;obtain⟨e,U9,s',⟨rfl,hno,E,h',hR,jl⟩,jd⟩:=k;obtain⟨fr',ds',h2,wr'⟩:=s';dsimp only at hno jl;subst hno
 have jc:Yu X (.dcall f (Yr ++ ([]:List Value)).toArray pm wm h) (.Zcc U9 h2):=by
  refine Zco (C:=cfg X fun _=>false) (ih:=JA (.Xf c fn2.ntmps wm pm ⟨XQ Yr 0 .nil,[],h,none⟩) (.Xf .normal U9 ⟨fr',[],h2,wr'⟩)) (Xg jd) ?_;unfold ZdX;have hf':(cfg X fun _=>false).X.fns.get f=some fn2:=hf;rw [hf'];dsimp only;rw [hb];dsimp only;have e1:Nat.ble (Yr ++ ([]:List Value)).toArray.toList.length fn2.ntmps=true:=Nm0 (by rw [List.append_nil];exact hn);rw [e1,Cq1];rw [List.append_nil,Xh];unfold ZtP;dsimp only;have e3:Qt (cfg X fun _=>false).X.P fn2 fr' h2=some (.tuple #[]):=by unfold Qt;rw [hr];rfl
  rw [e3]
 refine⟨E,h',hR,?_⟩
 classical
 let ih:Qg ->Option YF:=fun j=>if j= .dcall f (Yr ++ ([]:List Value)).toArray pm wm h then some (.Zcc U9 h2) else if j= .leave fn wm (ZfH U9) ⟨fr,ds,h2,none⟩ then some (.fin E h') else none
 refine QX (C:=cfg X fun _=>false) (ih:=ih) ?_ ?_
 ·intro j r e;dsimp only [ih] at e;split at e
  ·rename_i hj;cases e;rw [hj];exact jc
  ·split at e
   ·rename_i hj;cases e;rw [hj];exact jl
   ·cases e
 ·unfold JQ;dsimp only;have hf':(cfg X fun _=>false).X.fns.get f=some fn2:=hf;rw [hf'];dsimp only;have i1:ih (.dcall f (Yr.toArray.toList ++ (#[]:Array Value).toList).toArray pm wm h)=some (.Zcc U9 h2):=by dsimp only [ih];rw [if_pos rfl]
  rw [i1];dsimp only [ih];rw [if_neg (by intro q;cases q),if_pos rfl]
end
theorem WO.ZEC {Q:XX ->Fs ->Prop} {fo x:Operand} {ts:Array TypeId} {f:FuncId} {v:Value} (hg:Yi ops ⟨none,.defer {callee:= .value fo,args:=#[x],argTypes:=ts},ty,p,af,g⟩ fr) (hf:Y5 fr fo=some (.func (.func f) #[] #[])) (hx:Y5 fr x=some v)
 (k:WO X n wm none ops l ⟨fr,⟨.fn (.func f) #[],[v].toArray⟩::ds,h,none⟩ Q):WO X n wm none ops (⟨none,.defer {callee:= .value fo,args:=#[x],argTypes:=ts},ty,p,af,g⟩::l) ⟨fr,ds,h,none⟩ Q:=by
 refine WO.cons (Zab X) (s1:= ⟨fr,⟨.fn (.func f) #[],[v].toArray⟩::ds,h,none⟩) ?_ k;have he:evs (Y5 fr) [x]=some [v]:=Zf hx Zm
 have ha:XG X h (Y5 fr) ⟨none,.defer {callee:= .value fo,args:=#[x],argTypes:=ts},ty,p,af,g⟩=some (.dfr ⟨.fn (.func f) #[],[v].toArray⟩,.none):=by
  show(match Callee.value fo,evs (Y5 fr) [x] with
   | .value f,some args=>match Y5 fr f with
     | some (.func (.func g) first cap)=>some (AN.dfr {target:= .fn (.func g) cap,args:=first ++ args.toArray},Eff.none)
     | _=>none
   | _,_=>none)=_
  rw [he];dsimp only;rw [hf];rfl
 unfold Uv;rw [hg.1,hg.2];dsimp only [Bool.not_true,Cq0,Cq1];rw [ha]
 rfl
section
variable {P:Program}
theorem ZiP {t a:TypeId} {x:Operand} {v:Value} {ms} (hp:plain (.iface a v)=true) (hu:P.underlying t=some (.interface ms)):Ui P .neq t x (.const .nilIface) (.iface a v) .nilIface=some (.val (.bool true),.none):=by
 have hpp:(plain (.iface a v) && plain .nilIface)=true:=by rw [hp];rfl
 unfold Ui;rw [hpp,Cq1];unfold K8
 have h1:ZX P (eqGuard .neq t x (.const .nilIface) (.iface a v) .nilIface)=some (.ok ()):=by
  cases x <;> rfl
 rw [prb h1]
 have h2:ZX P (Op.equal t (.iface a v) .nilIface)=some (.ok false):=by
  show ZX P (Op.equalIn (9999 + 1) t (.iface a v) .nilIface)=_;unfold Op.equalIn;rw [prb (Xv hu)];rfl
 have:ZX P (binOp .neq t (.iface a v) .nilIface)=some (.ok (.bool true)):=by
  show ZX P (do pure (Value.bool (!(← Op.equal t (.iface a v) .nilIface))):Sem Value)=_;rw [prb h2];rfl
 rw [this];rfl
theorem Zhx {t:TypeId} {x:Operand} {ms} (hu:P.underlying t=some (.interface ms)):Ui P .neq t x (.const .nilIface) .nilIface .nilIface=some (.val (.bool false),.none):=by
 unfold Ui;rw [show(plain .nilIface && plain .nilIface)=true from rfl,Cq1];unfold K8
 have h1:ZX P (eqGuard .neq t x (.const .nilIface) .nilIface .nilIface)=some (.ok ()):=by
  cases x <;> rfl
 rw [prb h1]
 have h2:ZX P (Op.equal t .nilIface .nilIface)=some (.ok true):=by
  show ZX P (Op.equalIn (9999 + 1) t .nilIface .nilIface)=_;unfold Op.equalIn;rw [prb (Xv hu)];rfl
 have:ZX P (binOp .neq t .nilIface .nilIface)=some (.ok (.bool false)):=by
  show ZX P (do pure (Value.bool (!(← Op.equal t .nilIface .nilIface))):Sem Value)=_;rw [prb h2];rfl
 rw [this];rfl
end
end Go.Yj
end
end
section
noncomputable section
namespace Go.Yj
open Go.Lf
variable {X:Ctx} {n wm:Nat} {rd:Option Nat} {ops:Array Oper} {ol:List Oper} {fr:Fr} {ds:List Deferred} {h h0:H} {ty:TypeId} {p:String} {af:Array Edge} {g:Option (Nat×Bool)} {T:Nat ->Prop} {G Gr:List (Ast wm)} {d l df:Nat} {LO:YN} {ps:Array Tmp} {Yr bd:Code}
def RP (K Z:Value ->H ->Prop):Uo ->H ->Prop:=fun e h'=>match e with
 | .ret v=>K v h'
 | .Yn v=>Z v h'
section
variable {fn:Func} {K Z:Value ->H ->Prop} {v:Value} {s:Fs}
theorem Z8.Zql {rs:List ResultVar} {vs:List Value} (hr:fn.results.toList=rs) (hv:Zbw X.P fr h rs=some vs) (hl:(match vs with | [v]=>v | vs=>.tuple vs.toArray)=v) (k:K v h):Z8 X fn wm (RP K Z) .ret ⟨fr,[],h,none⟩:=by
 obtain⟨pm,E,h',h1,⟨v',rfl,h2⟩,h3⟩:= (Z8.gen (X:=X) (wm:=wm) (R:=K) hr hv hl k).out;exact⟨⟨pm,.ret v',h',h1,h2,h3⟩⟩
theorem YS.Zyv (k:Z v h):YS X fn wm (RP K Z) (.Yn v) ⟨fr,[],h,none⟩:=YS.Yn k
theorem WF.Zsg {f:FuncId} {args:Array Value} {α β:Type} {r:β} (I:α ->Value ->H ->Prop) (j:α ->Option β) (k:∀ x v h',j x=some r ->I x v h' ->K v h') (hc:WF X f args wm h (RP (fun v h'=>∃ x,j x=some r∧I x v h') Z)):WF X f args wm h (RP K Z):=
 hc.mono fun e h' hq=>by
   cases e with
   | ret v=>obtain⟨x,h1,h2⟩:=hq;exact k x v h' h1 h2
   | Yn v=>exact hq
end
theorem WO.ZyI {Q:XX ->Fs ->Prop} {op:Op} {f:FuncId} {args:Array Value} (hg:Yi ops ⟨some d,op,ty,p,af,g⟩ fr) (hd:Nat.blt d n=true) (he:Yv X fr ⟨some d,op,ty,p,af,g⟩ f args)
 (k:WF X f args wm h (RP (fun v h'=>WO X n wm rd ops ol ⟨Tr.set fr d v,ds,h',none⟩ Q) (fun v h'=>Q (.panic v) ⟨fr,ds,h',none⟩))):WO X n wm rd ops (⟨some d,op,ty,p,af,g⟩::ol) ⟨fr,ds,h,none⟩ Q:=by
 obtain⟨e,h',hk,hj⟩:=k;cases e with
 | ret v=>exact WO.en hg hd he hj hk
 | Yn v=>exact WO.Zhm hg (he h) rfl hj hk
structure BdZ (n lo l:Nat) (fr:Fr) (ps:Array Tmp) (Yr bd:Code) (df:Nat) (R:Bool ->H ->Prop) (Z:Value ->H ->Prop) (e:XX) (s:Fs):Prop where
 out:BdS n lo l fr ps Yr bd df R e s∨∃ v,s.h.at l= .loop .busy none fr n ps Yr bd df∧e= .panic v∧s.ds= []∧Z v s.h
structure AsZ (X:Ctx) (n wm lo l:Nat) (fr:Fr) (ps:Array Tmp) (Yr bd:Code) (df:Nat) (R:Bool ->H ->Prop) (Z:Value ->H ->Prop) (e:XX) (s:Fs):Prop where
 out:e= .normal∧s.h.at l= .loop .ready none fr n ps Yr bd df∧∀ h1,(lo <=l ->Up lo (fun i=>i=l) s.h h1) ->h1.at l= .loop .busy none fr n ps Yr bd df ->WC X n wm (some l) bd ⟨s.fr,s.ds,h1,s.wr⟩ (BdZ n lo l fr ps Yr bd df R Z)
def RdZ (X:Ctx) (l:Nat) (args:Array Value) (wm:Nat) (h:H) (R:Bool ->H ->Prop) (Z:Value ->H ->Prop):Prop:=
 Zut X l args wm h R∨∃ v h',Z v h'∧Yu X (.round l args wm h) (.fin (.Yn v) h')
theorem RdZ.mk {l:Nat} {args:List Value} {fr fr1:Fr} {ps:Array Tmp} {Yr bd:Code} {df:Nat} {R:Bool ->H ->Prop} {Z:Value ->H ->Prop} (lo:Nat) (hat:h.at l= .loop .ready none fr n ps Yr bd df) (hw:wm <=l) (hl:Nat.beq args.length ps.toList.length=true) (hs:Qf (ps.toList.zip args) n fr=some fr1)
 (k:WC X n wm (some l) Yr ⟨fr1,[],h,none⟩ (AsZ X n wm lo l fr ps Yr bd df R Z)):RdZ X l args.toArray wm h R Z:=by
 obtain⟨e1,s1,⟨rfl,h1,k1⟩,j1⟩:=k;have o1:(s1.h.at l).own=true:=by rw [h1];rfl
 have s1l:=JN h1 rfl;obtain⟨e2,s2,⟨k2⟩,j2⟩:=k1 (s1.h.put l (.loop .busy none fr n ps Yr bd df)) (fun hl=>Up.put hl o1) (Xj s1l _)
 have h2:s2.h.at l= .loop .busy none fr n ps Yr bd df:=by
  rcases k2 with k2 | ⟨v,h2,_⟩
  ·exact k2.out.1
  ·exact h2
 have o2:(s2.h.at l).own=true:=by rw [h2];rfl
 have s2l:=JN h2 rfl
 have key:(∃ b A,R b (s2.h.put l A)∧Jl l e2 s2=some (.fin (.ret (.bool b)) (s2.h.put l A)))∨∃ v,Z v s2.h∧Jl l e2 s2=some (.fin (.Yn v) s2.h):=by
  rcases k2 with⟨_,⟨rfl,k2⟩ | ⟨c,hx,k2⟩⟩ | ⟨v,_,rfl,hd,hz⟩
  ·refine .inl ⟨true,_,k2 _ (fun hl=>Up.put hl o2) (Xj s2l _),?_⟩;unfold Jl;rw [h2]
  ·refine .inl ⟨false,_,k2 _ (fun hl=>Up.put hl o2) (Xj s2l _),?_⟩;unfold Jl;rw [h2];cases hx <;> rfl
  ·refine .inr ⟨v,hz,?_⟩;unfold Jl;rw [h2];dsimp only;rw [hd]
 classical
 let ih:Qg ->Option YF:=fun j=>if j= .code Yr n wm (some l) ⟨fr1,[],h,none⟩ then some (.code .normal s1) else JA (.code bd n wm (some l) {s1 with h:=s1.h.put l (.loop .busy none fr n ps Yr bd df)}) (.code e2 s2) j
 have HI:∀ j r,ih j=some r ->Yu X j r:=by
  intro j r e;dsimp only [ih] at e;split at e
  ·rename_i hj;cases e;rw [hj];exact j1
  ·exact Xg (X:=X) j2 j r e
 have fin:∀ r,Jl l e2 s2=some r ->Yu X (.round l args.toArray wm h) r:=fun r hev=>by
  refine Kv (C:=cfg X fun _=>false) (ih:=ih) HI ?_;unfold Zb2;rw [hat];have hl':Nat.beq args.toArray.toList.length ps.toList.length=true:=hl;dsimp only;rw [Nm0 hw,hl'];simp only [Bool.and_self,Cq1];have hs':Qf (ps.toList.zip args.toArray.toList) n fr=some fr1:=hs;rw [hs'];dsimp only;have i1:ih (.code Yr n wm (some l) {fr:=fr1,ds:= [],h:=h})=some (.code .normal s1):=by dsimp only [ih];rw [if_pos rfl]
  rw [i1];show WS ih l bd n wm .normal s1=_;unfold WS;dsimp only;rw [h1];dsimp only
  have i2:ih (.code bd n wm (some l) {s1 with h:=s1.h.put l (.loop .busy none fr n ps Yr bd df)})=some (.code e2 s2):=by
   dsimp only [ih];split
   ·rename_i hj;exfalso;injection hj with _ _ _ _ hs
    have:({s1 with h:=s1.h.put l (.loop .busy none fr n ps Yr bd df)}:Fs).h.at l=h.at l:=by rw [hs]
    dsimp only at this;rw [Xj s1l,hat] at this;cases this
   ·exact Xh _ _
  rw [i2];exact hev
 rcases key with⟨b,A,hR,hev⟩ | ⟨v,hz,hev⟩
 ·exact .inl ⟨b,_,hR,fin _ hev⟩
 ·exact .inr ⟨v,_,hz,fin _ hev⟩
theorem WO.ZkV {Q:XX ->Fs ->Prop} {o:Oper} {args:Array Value} {E:Eff} {v:Value} {h1 h2:H} (hg:Yi ops o fr) (ha:XG X h (Y5 fr) o=some (.round l args,E)) (hE:E.apply wm h=some h1)
 (hc:Yu X (.round l args wm h1) (.fin (.Yn v) h2)) (k:Q (.panic v) ⟨fr,ds,h2,none⟩):WO X n wm rd ops (o::ol) ⟨fr,ds,h,none⟩ Q:=by
 refine WO.panics (Xg hc) ?_ k;unfold Uv;rw [hg.1,hg.2];dsimp only [Bool.not_true,Cq0,Cq1];rw [ha];dsimp only [Bool.not_true,Cq0,Cq1];rw [hE];unfold Kh;dsimp only [J9,Cq0];rw [Xh]
 rfl
theorem WO.Zx5 {Q:XX ->Fs ->Prop} {fo:Operand} {xs:Array Operand} {ts:Array TypeId} {vs:List Value} {n2:Nat} {QD fr1:Fr} {as2 bd2:Code} (hg:Yi ops ⟨some d,.call {callee:= .value fo,args:=xs,argTypes:=ts},ty,p,af,g⟩ fr) (hd:Nat.blt d n=true) (hf:Y5 fr fo=some (.func (.yield l) #[] #[])) (hx:evs (Y5 fr) xs.toList=some vs)
 (hS:Sp wm T h0 G h) (pk:Pk G (ob wm l LO) Gr) (hLO:LO= .loop .ready none QD n2 ps as2 bd2 df) (hl:Nat.beq vs.length ps.toList.length=true) (hs:Qf (ps.toList.zip vs) n2 QD=some fr1)
 (k:WC X n2 wm (some l) as2 ⟨fr1,[],h,none⟩ (AsZ X n2 wm wm l QD ps as2 bd2 df (fun b h'=>WO X n wm rd ops ol ⟨Tr.set fr d (.bool b),ds,h',none⟩ Q) (fun v h'=>Q (.panic v) ⟨fr,ds,h',none⟩))):
 WO X n wm rd ops (⟨some d,.call {callee:= .value fo,args:=xs,argTypes:=ts},ty,p,af,g⟩::ol) ⟨fr,ds,h,none⟩ Q:=by
 obtain⟨h1,h2,h3⟩:=hS.get pk;have hat:=h1.trans hLO;rcases RdZ.mk (lo:=wm) hat h2 hl hs k with hr | ⟨v,h',hz,hj⟩
 ·exact WO.yld hg hd hf hx hat (Nb0 hl) hr fun b h' hk=>hk
 ·refine WO.ZkV (E:= .none) hg ?_ rfl hj hz;rw [Zb7,hx];dsimp only;rw [hf];dsimp only;unfold Ux;dsimp only;rw [hat];dsimp only;rw [hl];rfl
section
variable {QD:Fr} {R:Bool ->H ->Prop} {Z:Value ->H ->Prop}
theorem AsZ.sp (hLO:LO= .loop .ready none fr n ps Yr bd df) (hS:Sp wm T h0 G h) (pk:Pk G (ob wm l LO) Gr) (k:∀ h1,Sp wm T h0 (ob wm l (bsy LO)::Gr) h1 ->WC X n wm (some l) bd ⟨QD,ds,h1,none⟩ (BdZ n wm l fr ps Yr bd df R Z)):AsZ X n wm wm l fr ps Yr bd df R Z .normal ⟨QD,ds,h,none⟩:=by
 obtain⟨h1,h2,h3⟩:=hS.get pk;refine⟨⟨rfl,h1.trans hLO,fun h' u e=>k h' ?_⟩⟩;exact hS.one pk (u h2) (fun _ q=>q) ⟨by rw [e,hLO];rfl,h2,by rw [hLO];rfl⟩ fun _ q=>.inl q
theorem BdZ.sp (hLO:LO= .loop .ready none fr n ps Yr bd df) (hS:Sp wm T h0 G h) (pk:Pk G (ob wm l (bsy LO)) Gr) (k:∀ h1,Sp wm T h0 (ob wm l LO::Gr) h1 ->R true h1):BdZ n wm l fr ps Yr bd df R Z .normal ⟨QD,ds,h,none⟩:= ⟨.inl (BdS.sp hLO hS pk k)⟩
theorem BdZ.Yn {v:Value} (hLO:LO= .loop .ready none fr n ps Yr bd df) (hS:Sp wm T h0 G h) (pk:Pk G (ob wm l (bsy LO)) Gr) (k:Z v h):BdZ n wm l fr ps Yr bd df R Z (.panic v) ⟨QD,[],h,none⟩:=by
 obtain⟨h1,h2,h3⟩:=hS.get pk;exact⟨.inr ⟨v,h1.trans (by rw [hLO];rfl),rfl,rfl,k⟩⟩
end
theorem WC.ZmX {Q:XX ->Fs ->Prop} {gg:Operand} {f:FuncId} {first cap:List Value} (hS:Sp wm T h0 G h) (hg:Y5 fr gg=some (.func (.func f) first.toArray cap.toArray)) (hf:(X.fns.get f).isSome=true)
 (k:∀ h' l df LO,LO=YN.loop .ready none fr n ps Yr bd df ->Sp wm T h0 (ob wm l LO::ob wm df .deferred::G) h' ->WF X f (first ++ ([Value.func (.yield l) #[] #[]] ++ cap)).toArray wm h' (RP (fun _ h2=>RgS X wm l fr n ps Yr bd df ds Q h2) (fun v h2=>Q (.panic v) ⟨fr,⟨.collected df,#[]⟩::ds,h2,none⟩))):
 WC X n wm none (.rangeFunc gg ps Yr bd) ⟨fr,ds,h,none⟩ Q:=by
 have s1:Sp wm T h0 (ob wm h.size .deferred::G) (h.push .deferred):=Zgj rfl hS
 have s2:Sp wm T h0 (ob wm (h.size + 1) (.loop .ready none fr n ps Yr bd h.size)::ob wm h.size .deferred::G) ((h.push .deferred).push (.loop .ready none fr n ps Yr bd h.size)):=by
  have:=Zgj (A:= .loop .ready none fr n ps Yr bd h.size) rfl s1
  rwa [H.size_push] at this
 obtain⟨fn,hf⟩:=Option.isSome_iff_exists.1 hf;obtain⟨e,h3,hr,hj⟩:=k _ _ _ _ rfl s2
 have hac:Ux (cfg X fun _=>false).X ((h.push .deferred).push (.loop .ready none fr n ps Yr bd h.size)) (.func (.func f) first.toArray cap.toArray) [Value.func (.yield (h.size + 1)) #[] #[]]=some (.enter f (first ++ ([Value.func (.yield (h.size + 1)) #[] #[]] ++ cap)).toArray,.none):=by
  unfold Ux;have:(cfg X fun _=>false).X.fns.get f=some fn:=hf;dsimp only;rw [this];simp only [List.append_assoc]
 have pre:∀ (ih:Qg ->Option YF),X8 (cfg X fun _=>false) ih gg n wm none (h.size + 1) ⟨fr,⟨.collected h.size,#[]⟩::ds,(h.push .deferred).push (.loop .ready none fr n ps Yr bd h.size),none⟩=JI ih n wm none (h.size + 1) ⟨fr,⟨.collected h.size,#[]⟩::ds,(h.push .deferred).push (.loop .ready none fr n ps Yr bd h.size),none⟩ (ih (.call f (first ++ ([Value.func (.yield (h.size + 1)) #[] #[]] ++ cap)).toArray wm ((h.push .deferred).push (.loop .ready none fr n ps Yr bd h.size)))):=fun ih=>by
  unfold X8;dsimp only;rw [hg];dsimp only;rw [hac]
 cases e with
 | Yn v=>
   refine⟨.panic v,_,hr,Y4.2 (JJ (C:=cfg X fun _=>false) (ih:=JA (.call f _ wm _) (.fin (.Yn v) h3)) (Xg hj) ?_)⟩;show X8 (cfg X fun _=>false) _ gg n wm none (h.size + 1) ⟨fr,⟨.collected h.size,#[]⟩::ds,(h.push .deferred).push (.loop .ready none fr n ps Yr bd h.size),none⟩=_;rw [pre,Xh]
   rfl
 | ret v=>
 rcases hr.k with⟨hat,hk⟩ | ⟨c,hat,hk⟩
 ·refine⟨.normal,_,hk (h3.put (h.size + 1) (.loop .exhausted none fr n ps Yr bd h.size)) (Up.put hr.low (by rw [hat];rfl)),?_⟩;refine Y4.2 (JJ (C:=cfg X fun _=>false) (ih:=JA (.call f _ wm _) (.fin (.ret v) h3)) (Xg hj) ?_);show X8 (cfg X fun _=>false) _ gg n wm none (h.size + 1) ⟨fr,⟨.collected h.size,#[]⟩::ds,(h.push .deferred).push (.loop .ready none fr n ps Yr bd h.size),none⟩=_;rw [pre,Xh];unfold JI;dsimp only;rw [hat]
  rfl
 ·obtain⟨e2,s2,hq,hj2⟩:=hk (h3.put (h.size + 1) (.loop .exhausted (some c) fr n ps Yr bd h.size)) (Up.put hr.low (by rw [hat];rfl));refine⟨e2,s2,hq,?_⟩
  classical
  let ih:Qg ->Option YF:=fun j=>if j= .code c n wm none ⟨fr,⟨.collected h.size,#[]⟩::ds,h3.put (h.size + 1) (.loop .exhausted (some c) fr n ps Yr bd h.size),none⟩ then some (.code e2 s2) else JA (.call f (first ++ ([Value.func (.yield (h.size + 1)) #[] #[]] ++ cap)).toArray wm ((h.push .deferred).push (.loop .ready none fr n ps Yr bd h.size))) (.fin (.ret v) h3) j
  have HI:∀ j r,ih j=some r ->Yu X j r:=by
   intro j r e;dsimp only [ih] at e;split at e
   ·rename_i hj';cases e;rw [hj'];exact hj2
   ·exact Xg (X:=X) hj j r e
  refine Y4.2 (JJ (C:=cfg X fun _=>false) (ih:=ih) HI ?_);show X8 (cfg X fun _=>false) _ gg n wm none (h.size + 1) ⟨fr,⟨.collected h.size,#[]⟩::ds,(h.push .deferred).push (.loop .ready none fr n ps Yr bd h.size),none⟩=_
  have i1:ih (.call f (first ++ ([Value.func (.yield (h.size + 1)) #[] #[]] ++ cap)).toArray wm ((h.push .deferred).push (.loop .ready none fr n ps Yr bd h.size)))=some (.fin (.ret v) h3):=by
   dsimp only [ih];split
   ·rename_i hj';cases hj'
   ·exact Xh _ _
  rw [pre,i1];unfold JI;dsimp only;rw [hat];show ih (.code c n wm none _)=_;dsimp only [ih];rw [if_pos rfl]
end Go.Yj
end
end
section
noncomputable section
namespace Go.Yj
open Go.Lf
variable {X:Ctx} {n wm:Nat} {rd:Option Nat} {ops:Array Oper} {l:List Oper} {fr:Fr} {ds:List Deferred} {h h0:H} {ty:TypeId} {p:String} {af:Array Edge} {g:Option (Nat×Bool)} {T:Nat ->Prop} {G Gr Ga:List (Ast wm)} {d:Nat}
theorem ZeW {x:Operand} {it t:TypeId} {v:Value} {u:TypeDesc} (hu:X.P.underlying t=some u) (hi:(match u with | .interface _=>false | _=>true)=true) (hx:Y5 fr x=some (.iface t v)):XG X h (Y5 fr) ⟨some d,.typeAssert x it t true,ty,p,af,g⟩=some (.val (.tuple #[v,.bool true]),.none):=by
 show(match Y5 fr x with | some x=>vN (Wo X.P x t true) | none=>none)=_;rw [hx];dsimp only
 have:Wo X.P (.iface t v) t true=some (.tuple #[v,.bool true]):=by
  unfold Wo;rw [hu];cases u <;> first | (dsimp only;rw [Nat.beq_refl];rfl) | cases hi
 rw [this];rfl
theorem Zhq {x:Operand} {it t a:TypeId} {v z:Value} {u:TypeDesc} (hu:X.P.underlying t=some u) (hi:(match u with | .interface _=>false | _=>true)=true) (hz:Y3 X.P t=some z) (hne:Nat.beq a t=false) (hx:Y5 fr x=some (.iface a v)):XG X h (Y5 fr) ⟨some d,.typeAssert x it t true,ty,p,af,g⟩=some (.val (.tuple #[z,.bool false]),.none):=by
 show(match Y5 fr x with | some x=>vN (Wo X.P x t true) | none=>none)=_;rw [hx];dsimp only
 have:Wo X.P (.iface a v) t true=some (.tuple #[z,.bool false]):=by
  unfold Wo;rw [hu];cases u <;> first | (dsimp only;rw [hne,Cq0,Cq1,hz]) | cases hi
 rw [this];rfl
theorem Yv.inv {f:FuncId} {r:Operand} {nm:String} {xs:Array Operand} {ts:Array TypeId} {t:TypeId} {v:Value} {vs:List Value} {d:Option Tmp} (hr:Y5 fr r=some (.iface t v)) (hm:Zkp X.P t nm=some f) (hf:(X.fns.get f).isSome=true) (hx:evs (Y5 fr) xs.toList=some vs):
 Yv X fr ⟨d,.call {callee:= .invoke r nm,args:=xs,argTypes:=ts},ty,p,af,g⟩ f (v::vs).toArray:=fun h=>by
 obtain⟨fn,hf⟩:=Option.isSome_iff_exists.1 hf;unfold XG;dsimp only;rw [hx];dsimp only;rw [hr];dsimp only;unfold Zaq;dsimp only;rw [hm];dsimp only;rw [hf]
end Go.Yj
end
end
section
end
section
namespace Go.Proofs.YtbnepjakjmnadaaGreat
structure ZU where
 op:Int
 n:Int
 text:ByteArray
 kids:List ZU
 deriving Inhabited
structure Xw where
 text:ByteArray
 names:List ByteArray
 deriving Inhabited
mutual
structure Term where
 op:Int
 text:ByteArray
 args:List ZU
 defs:List Zg
 kids:List Term
structure Zg where
 form:Int
 text:ByteArray
 joins:List Xw
 defs:List Zg
 kids:List Term
end
instance:Inhabited Term:= ⟨⟨0,⟨#[]⟩,[],[],[]⟩⟩
instance:Inhabited Zg:= ⟨⟨0,⟨#[]⟩,[],[],[]⟩⟩
inductive Part
 | pr (t:Term)
 | ex (e:ZU)
 | cl (c:Zg)
instance:Inhabited Part:= ⟨.ex default⟩
def Zig {β:Type} (p:Part) (f:Term ->β) (g:ZU ->β) (k:Zg ->β):β:=match p with
 | .pr t=>f t
 | .ex e=>g e
 | .cl c=>k c
end Go.Proofs.YtbnepjakjmnadaaGreat
end
section
noncomputable section
namespace Go.Yj
open Go.Lf
structure SlW {α P:Type} (sz:Nat) (sh:P ->α ->List Value) (wm:Nat) (h:H) (a:Option Addr) (c:Nat) (xs:List α) (ps:Nat ->P):Prop where
 max:xs.length <=9223372036854775807
 cap:xs.length <=c / 2
 nl:Zkv a c
 mem:xs= []∨∃ i o cs own z,a=some ⟨i,o,none⟩∧h.at i= .row cs own z∧(i < wm∨own=false)∧o + xs.length * sz <=cs.length∧∀ k x,xs[k]? =some x ->(cs.drop (o + k * sz)).take sz=sh (ps k) x
theorem SlW.mono {α P:Type} {sz:Nat} {sh:P ->α ->List Value} {wm:Nat} {h h':H} {a:Option Addr} {c:Nat} {xs:List α} {ps:Nat ->P} (f:Fz wm h h') (s:SlW sz sh wm h a c xs ps):SlW sz sh wm h' a c xs ps:=
 ⟨s.max,s.cap,s.nl,s.mem.imp id fun⟨i,o,cs,own,z,h1,h2,h3,h4⟩=>⟨i,o,cs,own,z,h1,f.keep _ _ _ _ h2 h3,h3,h4⟩⟩
theorem SlW.up {α P:Type} {sz:Nat} {sh:P ->α ->List Value} {wm wm':Nat} {h:H} {a:Option Addr} {c:Nat} {xs:List α} {ps:Nat ->P} (f:wm <=wm') (s:SlW sz sh wm h a c xs ps):SlW sz sh wm' h a c xs ps:=
 ⟨s.max,s.cap,s.nl,s.mem.imp id fun⟨i,o,cs,own,z,h1,h2,h3,h4⟩=>⟨i,o,cs,own,z,h1,h2,h3.imp (fun x=>by omega) id,h4⟩⟩
theorem Sl.iff {α:Type} {e:Wv α} {wm:Nat} {h:H} {a:Option Addr} {c:Nat} {xs:List α}:Sl e wm h a c xs↔∃ ps,SlW e.sz e.sh wm h a c xs ps∧∀ k x,xs[k]? =some x ->e.F wm h (ps k) x:=by
 constructor
 ·intro s;rcases s.mem with h0 | ⟨i,o,cs,own,z,h1,h2,h3,h4⟩
  ·subst h0;exact⟨fun _=>e.dflt,⟨s.max,s.cap,s.nl,.inl rfl⟩,fun k x hk=>by simp at hk⟩
  ·have hq:∀ k,∃ q,∀ x,xs[k]? =some x ->(cs.drop (o + k * e.sz)).take e.sz=e.sh q x∧e.F wm h q x:=fun k=>by
    cases hx:xs[k]? with
    | none=>exact⟨e.dflt,fun x hx=>by cases hx⟩
    | some x=>
      obtain⟨q,g1,g2⟩:=h4.get k x hx;exact⟨q,fun y hy=>by cases hy;exact⟨g1,g2⟩⟩
   exact⟨fun k=>(hq k).choose,⟨s.max,s.cap,s.nl,.inr ⟨i,o,cs,own,z,h1,h2,h3,h4.len,fun k x hk=>((hq k).choose_spec x hk).1⟩⟩,fun k x hk=>((hq k).choose_spec x hk).2⟩
 ·rintro⟨ps,s,hF⟩;refine⟨s.max,s.cap,s.nl,s.mem.imp id ?_⟩;rintro⟨i,o,cs,own,z,h1,h2,h3,h4,h5⟩;exact⟨i,o,cs,own,z,h1,h2,h3,⟨h4,fun k x hk=>⟨ps k,h5 k x hk,hF k x hk⟩⟩⟩
end Go.Yj
namespace Go.Proofs.YtbnepjakjmnadaaGreat
open Go.Yj Go.Lf
abbrev SlP:=Option Addr×Nat
def Yk:Wv Xw where
 sz:=2
 pos:=by decide
 Par:=SlP
 dflt:= (none,0)
 sh:=fun p x=>[.string x.text,.slice p.1 x.names.length p.2]
 len:=fun _ _=>rfl
 one:=fun _ _=>rfl
 F:=fun wm h p x=>Sl YJ wm h p.1 p.2 x.names
 mono:=fun f x=>x.mono f
 up:=fun f x=>x.up f
def Zrp (p:SlP) (x:ZU):List Value:= [.int .i64 x.op,.int .i64 x.n,.string x.text,.slice p.1 x.kids.length p.2]
inductive Zc0 (wm:Nat) (h:H):SlP ->ZU ->Prop
 | mk {p:SlP} {x:ZU} (ps:Nat ->SlP) (hk:SlW 4 Zrp wm h p.1 p.2 x.kids ps) (hF:∀ k y,x.kids[k]? =some y ->Zc0 wm h (ps k) y):Zc0 wm h p x
theorem Zc0.mono {wm:Nat} {h h':H} {p:SlP} {x:ZU} (f:Fz wm h h') (s:Zc0 wm h p x):Zc0 wm h' p x:=by
 induction s with
 | mk ps hk _ ih=>exact .mk ps (hk.mono f) ih
theorem Zc0.up {wm wm':Nat} {h:H} {p:SlP} {x:ZU} (f:wm <=wm') (s:Zc0 wm h p x):Zc0 wm' h p x:=by
 induction s with
 | mk ps hk _ ih=>exact .mk ps (hk.up f) ih
def ZI:Wv ZU where
 sz:=4
 pos:=by decide
 Par:=SlP
 dflt:= (none,0)
 sh:=Zrp
 len:=fun _ _=>rfl
 one:=fun _ _=>rfl
 F:=Zc0
 mono:=Zc0.mono
 up:=Zc0.up
theorem Qo {wm:Nat} {h:H} {p:SlP} {x:ZU}:ZI.F wm h p x↔Sl ZI wm h p.1 p.2 x.kids:=by
 rw [Sl.iff];exact⟨fun s=>by cases s with | mk ps hk hF=>exact⟨ps,hk,hF⟩,fun⟨ps,hk,hF⟩=>.mk ps hk hF⟩
abbrev TmP:=SlP×SlP×SlP
def Zjc (p:TmP) (x:Term):List Value:= [.int .i64 x.op,.string x.text,.slice p.1.1 x.args.length p.1.2,.slice p.2.1.1 x.defs.length p.2.1.2,.slice p.2.2.1 x.kids.length p.2.2.2]
def Zc9 (p:TmP) (x:Zg):List Value:= [.int .i64 x.form,.string x.text,.slice p.1.1 x.joins.length p.1.2,.slice p.2.1.1 x.defs.length p.2.1.2,.slice p.2.2.1 x.kids.length p.2.2.2]
mutual
inductive Jb (wm:Nat) (h:H):TmP ->Term ->Prop
 | mk {p:TmP} {x:Term} (pd pk:Nat ->TmP) (ha:Sl ZI wm h p.1.1 p.1.2 x.args) (hd:SlW 5 Zc9 wm h p.2.1.1 p.2.1.2 x.defs pd) (hk:SlW 5 Zjc wm h p.2.2.1 p.2.2.2 x.kids pk)
    (hdF:∀ k y,x.defs[k]? =some y ->Xl wm h (pd k) y) (hkF:∀ k y,x.kids[k]? =some y ->Jb wm h (pk k) y):Jb wm h p x
inductive Xl (wm:Nat) (h:H):TmP ->Zg ->Prop
 | mk {p:TmP} {x:Zg} (pd pk:Nat ->TmP) (ha:Sl Yk wm h p.1.1 p.1.2 x.joins) (hd:SlW 5 Zc9 wm h p.2.1.1 p.2.1.2 x.defs pd) (hk:SlW 5 Zjc wm h p.2.2.1 p.2.2.2 x.kids pk)
    (hdF:∀ k y,x.defs[k]? =some y ->Xl wm h (pd k) y) (hkF:∀ k y,x.kids[k]? =some y ->Jb wm h (pk k) y):Xl wm h p x
end
theorem Jb.mono {wm:Nat} {h h':H} (f:Fz wm h h') {p:TmP} {x:Term} (s:Jb wm h p x):Jb wm h' p x:=
 Jb.rec (motive_1:=fun p x _=>Jb wm h' p x) (motive_2:=fun p x _=>Xl wm h' p x)
  (fun pd pk ha hd hk _ _ i1 i2=>.mk pd pk (ha.mono f) (hd.mono f) (hk.mono f) i1 i2) (fun pd pk ha hd hk _ _ i1 i2=>.mk pd pk (ha.mono f) (hd.mono f) (hk.mono f) i1 i2) s
theorem Xl.mono {wm:Nat} {h h':H} (f:Fz wm h h') {p:TmP} {x:Zg} (s:Xl wm h p x):Xl wm h' p x:=
 Xl.rec (motive_1:=fun p x _=>Jb wm h' p x) (motive_2:=fun p x _=>Xl wm h' p x)
  (fun pd pk ha hd hk _ _ i1 i2=>.mk pd pk (ha.mono f) (hd.mono f) (hk.mono f) i1 i2) (fun pd pk ha hd hk _ _ i1 i2=>.mk pd pk (ha.mono f) (hd.mono f) (hk.mono f) i1 i2) s
theorem Jb.up {wm wm':Nat} {h:H} (f:wm <=wm') {p:TmP} {x:Term} (s:Jb wm h p x):Jb wm' h p x:=
 Jb.rec (motive_1:=fun p x _=>Jb wm' h p x) (motive_2:=fun p x _=>Xl wm' h p x)
  (fun pd pk ha hd hk _ _ i1 i2=>.mk pd pk (ha.up f) (hd.up f) (hk.up f) i1 i2) (fun pd pk ha hd hk _ _ i1 i2=>.mk pd pk (ha.up f) (hd.up f) (hk.up f) i1 i2) s
theorem Xl.up {wm wm':Nat} {h:H} (f:wm <=wm') {p:TmP} {x:Zg} (s:Xl wm h p x):Xl wm' h p x:=
 Xl.rec (motive_1:=fun p x _=>Jb wm' h p x) (motive_2:=fun p x _=>Xl wm' h p x)
  (fun pd pk ha hd hk _ _ i1 i2=>.mk pd pk (ha.up f) (hd.up f) (hk.up f) i1 i2) (fun pd pk ha hd hk _ _ i1 i2=>.mk pd pk (ha.up f) (hd.up f) (hk.up f) i1 i2) s
def Yb:Wv Term where
 sz:=5
 pos:=by decide
 Par:=TmP
 dflt:= ((none,0),(none,0),(none,0))
 sh:=Zjc
 len:=fun _ _=>rfl
 one:=fun _ _=>rfl
 F:=Jb
 mono:=fun f s=>Jb.mono f s
 up:=fun f s=>Jb.up f s
def Zi:Wv Zg where
 sz:=5
 pos:=by decide
 Par:=TmP
 dflt:= ((none,0),(none,0),(none,0))
 sh:=Zc9
 len:=fun _ _=>rfl
 one:=fun _ _=>rfl
 F:=Xl
 mono:=fun f s=>Xl.mono f s
 up:=fun f s=>Xl.up f s
theorem Uc {wm:Nat} {h:H} {p:TmP} {x:Term}:Yb.F wm h p x↔Sl ZI wm h p.1.1 p.1.2 x.args∧Sl Zi wm h p.2.1.1 p.2.1.2 x.defs∧Sl Yb wm h p.2.2.1 p.2.2.2 x.kids:=by
 rw [Sl.iff (e:=Zi),Sl.iff (e:=Yb)];exact⟨fun s=>by cases s with | mk pd pk ha hd hk hdF hkF=>exact⟨ha,⟨pd,hd,hdF⟩,pk,hk,hkF⟩,fun⟨ha,⟨pd,hd,hdF⟩,pk,hk,hkF⟩=>Jb.mk pd pk ha hd hk hdF hkF⟩
theorem Z9 {wm:Nat} {h:H} {p:TmP} {x:Zg}:Zi.F wm h p x↔Sl Yk wm h p.1.1 p.1.2 x.joins∧Sl Zi wm h p.2.1.1 p.2.1.2 x.defs∧Sl Yb wm h p.2.2.1 p.2.2.2 x.kids:=by
 rw [Sl.iff (e:=Zi),Sl.iff (e:=Yb)];exact⟨fun s=>by cases s with | mk pd pk ha hd hk hdF hkF=>exact⟨ha,⟨pd,hd,hdF⟩,pk,hk,hkF⟩,fun⟨ha,⟨pd,hd,hdF⟩,pk,hk,hkF⟩=>Xl.mk pd pk ha hd hk hdF hkF⟩
end Go.Proofs.YtbnepjakjmnadaaGreat
end
section
noncomputable section
namespace Go.Proofs.YtbnepjakjmnadaaGreat
open Go.Yj Go.Lf
abbrev PtP:=TmP×SlP
def Ka (p:PtP):Part ->Value
 | .pr t=>.iface 78 (.agg (Zjc p.1 t).toArray)
 | .ex e=>.iface 88 (.agg (Zrp p.2 e).toArray)
 | .cl c=>.iface 166 (.agg (Zc9 p.1 c).toArray)
theorem Yf {p:PtP} {x:Part}:QC (Ka p x)=false:=by cases x <;> rfl
theorem Zis {p:PtP} {x:Part}:(Ka p x).cells.toList= [Ka p x]:=by cases x <;> rfl
theorem Zge {β:Type} {f:Term ->Option β} {g:ZU ->Option β} {k:Zg ->Option β} {x:Term} {r:β} (h:Zig (.pr x) f g k=some r):f x=some r:=h
theorem Zgf {β:Type} {f:Term ->Option β} {g:ZU ->Option β} {k:Zg ->Option β} {x:ZU} {r:β} (h:Zig (.ex x) f g k=some r):g x=some r:=h
theorem Zgg {β:Type} {f:Term ->Option β} {g:ZU ->Option β} {k:Zg ->Option β} {x:Zg} {r:β} (h:Zig (.cl x) f g k=some r):k x=some r:=h
def ZEZ (wm:Nat) (h:H) (p:PtP):Part ->Prop
 | .pr t=>Jb wm h p.1 t
 | .ex e=>Zc0 wm h p.2 e
 | .cl c=>Xl wm h p.1 c
def Z5:Wv Part where
 sz:=1
 pos:=by decide
 Par:=PtP
 dflt:= (((none,0),(none,0),(none,0)),(none,0))
 sh:=fun p x=>[Ka p x]
 len:=fun _ _=>rfl
 one:=fun p x=>by cases x <;> rfl
 F:=ZEZ
 mono:=fun{wm h h' p x} f s=>by
  cases x with
  | pr t=>exact Jb.mono f s
  | ex e=>exact Zc0.mono f s
  | cl c=>exact Xl.mono f s
 up:=fun{wm wm' h p x} f s=>by
  cases x with
  | pr t=>exact Jb.up f s
  | ex e=>exact Zc0.up f s
  | cl c=>exact Xl.up f s
theorem Zdg {wm:Nat} {h:H} {a1 a2 a3 a4:Option Addr} {c1 c2 c3 c4:Nat} {t:Term} (x:Z5.F wm h (((a1,c1),(a2,c2),(a3,c3)),(a4,c4)) (.pr t)):Sl ZI wm h a1 c1 t.args∧Sl Zi wm h a2 c2 t.defs∧Sl Yb wm h a3 c3 t.kids:=Uc.1 x
theorem Zjk {wm:Nat} {h:H} {a1 a2 a3 a4:Option Addr} {c1 c2 c3 c4:Nat} {e:ZU} (x:Z5.F wm h (((a1,c1),(a2,c2),(a3,c3)),(a4,c4)) (.ex e)):Sl ZI wm h a4 c4 e.kids:=Qo.1 x
theorem Zdh {wm:Nat} {h:H} {a1 a2 a3 a4:Option Addr} {c1 c2 c3 c4:Nat} {c:Zg} (x:Z5.F wm h (((a1,c1),(a2,c2),(a3,c3)),(a4,c4)) (.cl c)):Sl Yk wm h a1 c1 c.joins∧Sl Zi wm h a2 c2 c.defs∧Sl Yb wm h a3 c3 c.kids:=Z9.1 x
theorem Zk9 {wm:Nat} {h:H} {a1 a2 a3:Option Addr} {c1 c2 c3:Nat} {t:Term} (x:Sl ZI wm h a1 c1 t.args) (y:Sl Zi wm h a2 c2 t.defs) (z:Sl Yb wm h a3 c3 t.kids):Z5.F wm h (((a1,c1),(a2,c2),(a3,c3)),(none,0)) (.pr t):=Uc.2 ⟨x,y,z⟩
theorem ZoW {wm:Nat} {h:H} {a4:Option Addr} {c4:Nat} {e:ZU} (x:Sl ZI wm h a4 c4 e.kids):Z5.F wm h (((none,0),(none,0),(none,0)),(a4,c4)) (.ex e):=Qo.2 x
theorem ZBS {wm:Nat} {h:H} {a1 a2 a3:Option Addr} {c1 c2 c3:Nat} {c:Zg} (x:Sl Yk wm h a1 c1 c.joins) (y:Sl Zi wm h a2 c2 c.defs) (z:Sl Yb wm h a3 c3 c.kids):Z5.F wm h (((a1,c1),(a2,c2),(a3,c3)),(none,0)) (.cl c):=Z9.2 ⟨x,y,z⟩
end Go.Proofs.YtbnepjakjmnadaaGreat
end
end
section
namespace Go.Proofs.YtbnepjakjmnadaaGreat
structure YI where
 channels:(List ByteArray)
 many:(List Int)
 at_:(List Int)
 places:(List ByteArray)
 bad:Bool
 deriving Inhabited
structure ZpM where
 YX:Zg
 deriving Inhabited
structure Process where
 term:Term
 deriving Inhabited
structure Zkw where
 Q7:ZU
 deriving Inhabited
structure ZR where
 at_:Int
 many:Int
 deriving DecidableEq,Inhabited
def JK (x y:ZR):Bool:= [x.at_==y.at_,x.many==y.many].all id
def ZAj:Option Bool:=some true
end Go.Proofs.YtbnepjakjmnadaaGreat
end
section
set_option maxRecDepth 100000
noncomputable section
namespace Go.Proofs.YtbnepjakjmnadaaGreat
open Go.Yj Go.Lf
def ZoJ:Wv ZR where
 sz:=2
 pos:=by decide
 Par:=Unit
 dflt:= ()
 sh:=fun _ x=>[.int .i64 x.at_,.int .i64 x.many]
 len:=fun _ _=>rfl
 one:=fun _ _=>rfl
 F:=fun _ _ _ _=>True
 mono:=fun _ x=>x
 up:=fun _ x=>x
def XZ (x:ZR):Value:= .agg [.int .i64 x.at_,.int .i64 x.many].toArray
theorem ZhH:XX.P.underlying 9=some .string:=Kq0
theorem ZoA:XX.P.underlying 20=some (.interface #[]):=Kq0
theorem Jv:XX.P.underlying 22=some (.slice 9):=Kq0
theorem JC:XX.P.underlying 29=some (.slice 36):=Kq0
theorem Y7:XX.P.underlying 30=some (.slice 130):=Kq0
theorem U4:XX.P.underlying 31=some (.slice 33):=Kq0
theorem Uq:XX.P.underlying 70=some (.map 9 4):=Kq0
theorem Zi3:XX.P.underlying 102=some (.slice 3):=Kq0
theorem Qn:XX.P.underlying 128=some (.slice 136):=Kq0
theorem UU:XX.P.underlying 142=some (.slice 140):=Kq0
theorem Zej:XX.P.underlying 160=some (.slice 30):=Kq0
theorem ZmQ:XX.P.underlying 185=some (.map 9 187):=Kq0
theorem Un:YL XX.P 3=some false:=Kq0
theorem ZwE:YL XX.P 4=some false:=Kq0
theorem J6:YL XX.P 9=some false:=Kq0
theorem Uw:YL XX.P 22=some false:=Kq0
theorem ZaD:YL XX.P 28=some false:=Kq0
theorem Uh:YL XX.P 29=some false:=Kq0
theorem Xo:YL XX.P 30=some false:=Kq0
theorem U7:YL XX.P 31=some false:=Kq0
theorem XH:YL XX.P 33=some true:=Kq0
theorem Zhv:YL XX.P 34=some false:=Kq0
theorem Kk:YL XX.P 36=some true:=Kq0
theorem ZiO:YL XX.P 37=some false:=Kq0
theorem Zuh:YL XX.P 70=some false:=Kq0
theorem Zkq:YL XX.P 102=some false:=Kq0
theorem ZcV:YL XX.P 127=some false:=Kq0
theorem Zas:YL XX.P 128=some false:=Kq0
theorem WV:YL XX.P 130=some true:=Kq0
theorem Zoj:YL XX.P 136=some true:=Kq0
theorem ZcU:YL XX.P 140=some false:=Kq0
theorem Zar:YL XX.P 141=some false:=Kq0
theorem ZAT:YL XX.P 159=some true:=Kq0
theorem Zoi:YL XX.P 185=some false:=Kq0
theorem Zoh:YL XX.P 187=some true:=Kq0
theorem ZAS:YL XX.P 194=some false:=Kq0
theorem Zui:YL XX.P 195=some false:=Kq0
theorem WA:YG XX.P 3=some 1:=Kq0
theorem Zrl:YG XX.P 4=some 1:=Kq0
theorem Zaw:YG XX.P 9=some 1:=Kq0
theorem Zrm:YG XX.P 22=some 1:=Kq0
theorem Zek:YG XX.P 30=some 1:=Kq0
theorem YC:YG XX.P 33=some 5:=Kq0
theorem Qd:YG XX.P 36=some 4:=Kq0
theorem Zi8:YG XX.P 37=some 1:=Kq0
theorem Zyn:YG XX.P 70=some 1:=Kq0
theorem Zi7:YG XX.P 78=some 5:=Kq0
theorem Zym:YG XX.P 88=some 4:=Kq0
theorem ZoG:YG XX.P 102=some 1:=Kq0
theorem Yw:YG XX.P 130=some 5:=Kq0
theorem Qr:YG XX.P 136=some 2:=Kq0
theorem WZ:YG XX.P 140=some 1:=Kq0
theorem Zja:YG XX.P 141=some 1:=Kq0
theorem ZoF:YG XX.P 147=some 1:=Kq0
theorem Zi9:YG XX.P 159=some 2:=Kq0
theorem Zu0:YG XX.P 166=some 5:=Kq0
theorem ZuZ:YG XX.P 185=some 1:=Kq0
theorem Zc7:YG XX.P 187=some 2:=Kq0
theorem ZuY:YG XX.P 195=some 1:=Kq0
theorem JO:ZY XX.P 33 0 0:=ZY.of Kq0
theorem ZjO:ZY XX.P 33 1 1:=ZY.of Kq0
theorem UI:ZY XX.P 33 2 2:=ZY.of Kq0
theorem Qk:ZY XX.P 33 3 3:=ZY.of Kq0
theorem Wi:ZY XX.P 33 4 4:=ZY.of Kq0
theorem Zag:ZY XX.P 36 0 0:=ZY.of Kq0
theorem Zaf:ZY XX.P 36 1 1:=ZY.of Kq0
theorem ZfO:ZY XX.P 36 2 2:=ZY.of Kq0
theorem Wh:ZY XX.P 36 3 3:=ZY.of Kq0
theorem UH:ZY XX.P 78 0 0:=ZY.of Kq0
theorem Zpf:ZY XX.P 88 0 0:=ZY.of Kq0
theorem KQ:ZY XX.P 104 0 0:=ZY.of Kq0
theorem ZgS:ZY XX.P 104 1 1:=ZY.of Kq0
theorem ZgR:ZY XX.P 104 2 2:=ZY.of Kq0
theorem Zdy:ZY XX.P 104 3 3:=ZY.of Kq0
theorem WM:ZY XX.P 104 4 4:=ZY.of Kq0
theorem WK:ZY XX.P 130 0 0:=ZY.of Kq0
theorem KP:ZY XX.P 130 1 1:=ZY.of Kq0
theorem Uf:ZY XX.P 130 2 2:=ZY.of Kq0
theorem Ql:ZY XX.P 130 3 3:=ZY.of Kq0
theorem WJ:ZY XX.P 130 4 4:=ZY.of Kq0
theorem JH:ZY XX.P 136 0 0:=ZY.of Kq0
theorem JG:ZY XX.P 136 1 1:=ZY.of Kq0
theorem ZlU:ZY XX.P 147 0 0:=ZY.of Kq0
theorem ZgQ:ZY XX.P 159 0 0:=ZY.of Kq0
theorem ZlT:ZY XX.P 159 1 1:=ZY.of Kq0
theorem ZgP:ZY XX.P 166 0 0:=ZY.of Kq0
theorem ZfY:Y3 XX.P 3=some (.int .i64 0):=Kq0
theorem ZkC:Y3 XX.P 4=some (.bool false):=Kq0
theorem ZkB:Y3 XX.P 9=some (.string ⟨#[]⟩):=Kq0
theorem Zq2:Y3 XX.P 30=some (.slice none 0 0):=Kq0
theorem Zx4:Y3 XX.P 33=some (.agg #[.int .i64 0,.string ⟨#[]⟩,.slice none 0 0,.slice none 0 0,.slice none 0 0]):=Kq0
theorem Zq1:Y3 XX.P 36=some (.agg #[.int .i64 0,.int .i64 0,.string ⟨#[]⟩,.slice none 0 0]):=Kq0
theorem Zq0:Y3 XX.P 37=some (.int .i64 0):=Kq0
theorem Zx3:Y3 XX.P 70=some (.map none):=Kq0
theorem K4:Y3 XX.P 78=some (.agg #[.int .i64 0,.string ⟨#[]⟩,.slice none 0 0,.slice none 0 0,.slice none 0 0]):=Kq0
theorem ZmO:Y3 XX.P 88=some (.agg #[.int .i64 0,.int .i64 0,.string ⟨#[]⟩,.slice none 0 0]):=Kq0
theorem ZuO:Y3 XX.P 104=some (.agg #[.slice none 0 0,.slice none 0 0,.slice none 0 0,.slice none 0 0,.bool false]):=Kq0
theorem Zc3:Y3 XX.P 130=some (.agg #[.int .i64 0,.string ⟨#[]⟩,.slice none 0 0,.slice none 0 0,.slice none 0 0]):=Kq0
theorem Zox:Y3 XX.P 136=some (.agg #[.string ⟨#[]⟩,.slice none 0 0]):=Kq0
theorem ZfG:Y3 XX.P 140=some (.nilIface):=Kq0
theorem ZiX:Y3 XX.P 141=some (.nilFunc):=Kq0
theorem ZiW:Y3 XX.P 147=some (.agg #[.int .i64 0]):=Kq0
theorem ZiV:Y3 XX.P 159=some (.agg #[.slice none 0 0,.int .i64 0]):=Kq0
theorem Zow:Y3 XX.P 166=some (.agg #[.int .i64 0,.string ⟨#[]⟩,.slice none 0 0,.slice none 0 0,.slice none 0 0]):=Kq0
theorem ZuN:Y3 XX.P 185=some (.map none):=Kq0
theorem ZfF:Y3 XX.P 187=some (.agg #[.int .i64 0,.int .i64 0]):=Kq0
theorem ZuM:Y3 XX.P 195=some (.nilFunc):=Kq0
theorem ZpA:Km XX.P 78 [.int .i64 0,.string ⟨#[]⟩,.slice none 0 0,.slice none 0 0,.slice none 0 0] [(0,5)]:= ⟨_,_,K4,rfl,Tryz.underlying78,by kernel_rfl⟩
theorem ZtY:Km XX.P 88 [.int .i64 0,.int .i64 0,.string ⟨#[]⟩,.slice none 0 0] [(0,4)]:= ⟨_,_,ZmO,rfl,Tryz.underlying88,by kernel_rfl⟩
theorem ZAK:Km XX.P 104 [.slice none 0 0,.slice none 0 0,.slice none 0 0,.slice none 0 0,.bool false] [(0,1),(1,1),(2,1),(3,1),(4,1)]:= ⟨_,_,ZuO,rfl,Tryz.underlying104,by kernel_rfl⟩
theorem ZAJ:Km XX.P 147 [.int .i64 0] [(0,1)]:= ⟨_,_,ZiW,rfl,Tryz.underlying147,by kernel_rfl⟩
theorem ZAI:Km XX.P 159 [.slice none 0 0,.int .i64 0] [(0,1),(1,1)]:= ⟨_,_,ZiV,rfl,Tryz.underlying159,by kernel_rfl⟩
theorem ZAH:Km XX.P 166 [.int .i64 0,.string ⟨#[]⟩,.slice none 0 0,.slice none 0 0,.slice none 0 0] [(0,5)]:= ⟨_,_,Zow,rfl,Tryz.underlying166,by kernel_rfl⟩
theorem ZAF:Km XX.P 187 [.int .i64 0,.int .i64 0] [(0,1),(1,1)]:= ⟨_,_,ZfF,rfl,Tryz.underlying187,by kernel_rfl⟩
theorem Zd4:ZhB XX.P #[22,22] 1 16:= ⟨9,.string ⟨#[]⟩,by kernel_rfl⟩
theorem Zt9:ZhB XX.P #[30,30] 5 96:= ⟨130,.agg #[.int .i64 0,.string ⟨#[]⟩,.slice none 0 0,.slice none 0 0,.slice none 0 0],by kernel_rfl⟩
theorem Zht:ZhB XX.P #[102,102] 1 8:= ⟨3,.int .i64 0,by kernel_rfl⟩
theorem Zao:ZhB XX.P #[142,142] 1 16:= ⟨140,.nilIface,by kernel_rfl⟩
theorem Zod:ZhB XX.P #[160,160] 1 24:= ⟨30,.slice none 0 0,by kernel_rfl⟩
theorem ZAl (x y:ZR):ZE5 XX.P 187 (ZoJ.sh () x) (ZoJ.sh () y) (JK x y):=
 ⟨by kernel_rfl,Zqw (d:=9999) (bs:= [x.at_==y.at_,x.many==y.many]) Tryz.underlying187 Kq0 ⟨⟨by decide,_,_,ZbP Kq0 rfl,ZbP Kq0 rfl,eq_int Kq0⟩,⟨by decide,_,_,ZbP Kq0 rfl,ZbP Kq0 rfl,eq_int Kq0⟩,trivial⟩⟩
theorem KN:Ze4 XX.P 9 Value.string:=Ze4.str Kq0
theorem ZC2:(XX.fns.get 14).isSome=true:=Kq0
theorem Zlw:(XX.fns.get 15).isSome=true:=Kq0
theorem ZsU:(XX.fns.get 16).isSome=true:=Kq0
theorem ZC1:(XX.fns.get 19).isSome=true:=Kq0
theorem ZC0:(XX.fns.get 20).isSome=true:=Kq0
theorem ZCZ:(XX.fns.get 21).isSome=true:=Kq0
theorem ZCY:(XX.fns.get 22).isSome=true:=Kq0
theorem ZsR:(XX.fns.get 23).isSome=true:=Kq0
theorem ZsQ:(XX.fns.get 24).isSome=true:=Kq0
theorem ZCX:(XX.fns.get 25).isSome=true:=Kq0
theorem ZCW:(XX.fns.get 26).isSome=true:=Kq0
theorem Zlv:(XX.fns.get 36).isSome=true:=Kq0
theorem ZCV:(XX.fns.get 53).isSome=true:=Kq0
theorem ZsP:(XX.fns.get 57).isSome=true:=Kq0
theorem Zlu:(XX.fns.get 58).isSome=true:=Kq0
theorem ZsO:(XX.fns.get 59).isSome=true:=Kq0
theorem Zo9:(XX.fns.get 61).isSome=true:=Kq0
theorem ZsN:(XX.fns.get 62).isSome=true:=Kq0
theorem ZsM:(XX.fns.get 63).isSome=true:=Kq0
theorem ZsL:(XX.fns.get 64).isSome=true:=Kq0
theorem ZsK:(XX.fns.get 65).isSome=true:=Kq0
theorem ZCU:(XX.fns.get 71).isSome=true:=Kq0
theorem Zfl:(XX.fns.get 80).isSome=true:=Kq0
theorem Zns:(XX.fns.get 100).isSome=true:=Kq0
theorem Kt:(XX.fns.get 101).isSome=true:=Kq0
theorem Znr:(XX.fns.get 102).isSome=true:=Kq0
theorem Zs3:(XX.fns.get 103).isSome=true:=Kq0
theorem YU:(XX.fns.get 104).isSome=true:=Kq0
theorem Zs2:(XX.fns.get 105).isSome=true:=Kq0
theorem Zex:(XX.fns.get 106).isSome=true:=Kq0
theorem Zs1:(XX.fns.get 107).isSome=true:=Kq0
theorem Zs0:(XX.fns.get 108).isSome=true:=Kq0
theorem Zza:(XX.fns.get 113).isSome=true:=Kq0
theorem ZsZ:(XX.fns.get 114).isSome=true:=Kq0
theorem Zy9:(XX.fns.get 115).isSome=true:=Kq0
theorem Zy8:(XX.fns.get 116).isSome=true:=Kq0
theorem Zy7:(XX.fns.get 136).isSome=true:=Kq0
theorem ZsY:(XX.fns.get 137).isSome=true:=Kq0
theorem ZsX:(XX.fns.get 138).isSome=true:=Kq0
theorem ZsW:(XX.fns.get 139).isSome=true:=Kq0
theorem Zy6:(XX.fns.get 144).isSome=true:=Kq0
theorem ZjI:(XX.fns.get 145).isSome=true:=Kq0
theorem ZsV:(XX.fns.get 146).isSome=true:=Kq0
theorem UZ:(XX.fns.get 160).isSome=true:=Kq0
theorem Zy5:(XX.fns.get 197).isSome=true:=Kq0
theorem ZsT:(XX.fns.get 198).isSome=true:=Kq0
theorem ZsS:(XX.fns.get 199).isSome=true:=Kq0
theorem Zy4:(XX.fns.get 200).isSome=true:=Kq0
theorem Zy3:(XX.fns.get 201).isSome=true:=Kq0
end Go.Proofs.YtbnepjakjmnadaaGreat
end
end
section
namespace Go.Proofs.YtbnepjakjmnadaaGreat
open Go.Lf
def ZeM (p0:(List ByteArray)) (p1:ByteArray):Int ->(Int ->Option Bool) ->Option Bool:=fun v5 Zff=>
 (bif decide (v5 < (p0.length:Int)) then(YB p0 v5).bind fun x8=>(bif decide (x8=p1) then some true else Zff (Xm (v5 + 1))) else some false)
def Zg8 (F:Nat) (p0:(List ByteArray)) (p1:ByteArray):Option Bool:=
 loop F (ZeM p0 p1) 0
def Ztx:Option (List (ByteArray×Bool)):=
 some (QR (QR (QR (QR (QR (QR (QR (QR (QR (QR ([]:(List (ByteArray×Bool))) (⟨#[97,110,100]⟩:ByteArray) true) (⟨#[100,101,102]⟩:ByteArray) true) (⟨#[101,108,115,101]⟩:ByteArray) true) (⟨#[103,111]⟩:ByteArray) true) (⟨#[105,102]⟩:ByteArray) true) (⟨#[105,110]⟩:ByteArray) true) (⟨#[112,108,97,99,101]⟩:ByteArray) true) (⟨#[115,116,111,112]⟩:ByteArray) true) (⟨#[116,104,101,110]⟩:ByteArray) true) (⟨#[119,97,116,99,104]⟩:ByteArray) true)
end Go.Proofs.YtbnepjakjmnadaaGreat
end
section
set_option maxRecDepth 20000
noncomputable section
namespace Go.Proofs.YtbnepjakjmnadaaGreat
open Go.Yj Go.Lf
theorem Zz1 {F wm:Nat} {h:H} {p0:(List ByteArray)} {p1:ByteArray} {Zk:Option Addr} {Zj:Nat} {r:Bool} (ZQ:wm <=h.size) (Zz:Sl YJ wm h Zk Zj p0) (hL:Zg8 F p0 p1=some r):
 WR XX 36 #[.slice Zk p0.length Zj,.string p1] wm h (CP (fun(v:Value) (Gb:List (Ast wm))=>v= .bool r∧Gb= []) [] h):=by
 refine WF.begin (args:= [_,_]) (fn:=Tryz.f36) Kq0 (by exact rfl) Tryz.ntmps36 (by simp) ?_;simp only [Zx,ZF,Nat.reduceAdd];obtain⟨T,hT,hS⟩:∃ T,T=Qc (wm:=wm) []∧Sp wm T h [] h:= ⟨_,rfl,Sp.start ZQ Yx.nil⟩
 unfold Zg8 at hL;refine WC.seq ?_;refine WC.region ?_;refine WO.w gN rfl (Zc (ZH rfl)) ?_;refine WO.nil ?_;refine Zh.Zv ?_;refine WC.seq ?_;refine WC.seq ?_;refine WC.region ?_;refine WO.w gN rfl (Zc (ZH rfl)) ?_;refine WO.nil ?_;refine Zh.Zv ?_;refine WC.block ?_;refine WC.loop (WL.lift hL (fun(v5:Int) (s:Fs)=>∃ (QD:Fr) (h1:H),s= ⟨QD,[],h1,none⟩∧Sp wm T h [] h1∧QD.at 0= .slice Zk p0.length Zj∧QD.at 1= .string p1∧QD.at 5= .int .i64 v5) ⟨_,_,rfl,hS.only .n,(Zu rfl (Za rfl fh)),(Zu rfl fh),fh⟩ ?_);clear hL hS;rintro Zff v5 s ZgD hL ⟨QD,h1,rfl,hS,e3,e4,e6⟩;dsimp only [ZeM] at hL;refine WC.seq ?_;refine WC.seq ?_;refine WC.region ?_;refine WO.w gN rfl (Zb (Zd e6 rfl)) ?_;refine WO.w gN rfl (Zb (Zd (Za rfl e3) rfl)) ?_;refine WO.w gN rfl (ZP Jv (Zd fh rfl) rfl) ?_;refine WO.w gN rfl (Zn (Zd (Zu rfl fh) rfl) (Zd fh rfl) Z7) ?_;refine WO.nil ?_;refine Zh.Zv ?_;refine WC.ZV (Zd fh rfl) (fun hc=>?_) (fun hc=>?_)
 ·replace hL:=ZB hc hL;refine WC.skip ?_;refine Zh.Zv ?_;refine WC.seq ?_;refine WC.block ?_;refine WC.seq ?_;refine WC.region ?_;refine WO.w gN rfl (Zb (Zd (ZA rfl e3) rfl)) ?_;refine WO.w gN rfl (Zb (Zd (ZA rfl (Za rfl e6)) rfl)) ?_;obtain⟨x8,hx8,hL⟩:=bind_some hL;obtain⟨b9,o10,_,Zzc,Zzu,Zzt,Zqj⟩:=Sl.at_ Zz hx8;refine WO.w gN rfl (Yg Jv Zaw (Zd (Za rfl fh) rfl) (Zd fh rfl) rfl Zzc hx8) ?_;refine WO.w gN rfl (Zw J6 (Zd fh rfl) (At.fz hS.fz Zzt Zzu) (j:=0) rfl (v:= .string x8) rfl) ?_;refine WO.w gN rfl (Zb (Zd (Zl rfl e4) rfl)) ?_;refine WO.w gN rfl (Zn (Zd (Za rfl fh) rfl) (Zd fh rfl) JZ) ?_;refine WO.nil ?_;refine Zh.Zv ?_;refine WC.ZV (Zd fh rfl) (fun hc=>?_) (fun hc=>?_)
  ·replace hL:=ZB hc hL;refine WC.seq ?_;refine WC.region ?_;refine WO.w gN rfl (Zc (ZH rfl)) ?_;refine WO.nil ?_;refine Zh.Zv ?_;refine WC.ret ?_;refine ZK.ret ?_;refine Zh.ret ?_;refine ZT.ret ?_;refine ZK.ret ?_;refine Zh.ret ?_;have hr:=Oi0 hL;subst hr;exact YT.Qx rfl (ZG (Zd fh rfl) Zy) ⟨_,⟨rfl,rfl⟩,hT ▸ hS.only .n⟩
  ·replace hL:=ZC hc hL;refine WC.skip ?_;refine ZK.Zv ?_;refine Zh.Zv ?_;refine WC.region ?_;refine WO.w gN rfl (Zb (Zd (Zl rfl (Zu rfl e6)) rfl)) ?_;refine WO.w gN rfl (Zn (Zd fh rfl) (ZH rfl) ZN) ?_;refine WO.w gN rfl (Zc (Zd fh rfl)) ?_;refine WO.nil ?_;exact ZT.Zv (ZgD _ _ hL ⟨_,_,rfl,hS.only .n,(Zl rfl (ZA rfl (Za rfl e3))),(Zl rfl (ZA rfl (Za rfl e4))),fh⟩)
 ·replace hL:=ZC hc hL;refine WC.exit ?_;refine Zh.exit ?_;refine ZT.exit ?_;refine ZK.here ?_;refine Zh.Zv ?_;refine WC.seq ?_;refine WC.region ?_;refine WO.w gN rfl (Zc (ZH rfl)) ?_;refine WO.nil ?_;refine Zh.Zv ?_;refine WC.ret ?_;have hr:=Oi0 hL;subst hr;exact YT.Qx rfl (ZG (Zd fh rfl) Zy) ⟨_,⟨rfl,rfl⟩,hT ▸ hS.only .n⟩
theorem Zg7 {F:Nat} {h:H} {p0:(List ByteArray)} {p1:ByteArray} {Zk:Option Addr} {Zj:Nat} {r:Bool} (Zz:Sl YJ h.size h Zk Zj p0) (hL:Zg8 F p0 p1=some r):Pure XX 36 #[.slice Zk p0.length Zj,.string p1] h (.bool r):=
 WR.Us rfl (Zz1 (Nat.le_refl _) Zz hL)
theorem Zz0 {wm:Nat} {h:H} {r:(List (ByteArray×Bool))} (ZQ:wm <=h.size) (hL:Ztx=some r):
 WR XX 53 #[] wm h (CP (fun(v:Value) (Gb:List (Ast wm))=>∃ (Zxa:Nat),v= .map (some Zxa)∧Gb= [mp wm Value.string Value.bool (some Zxa) r]) [] h):=by
 refine WF.begin (args:= []) (fn:=Tryz.f53) Kq0 (by exact rfl) Tryz.ntmps53 (by simp) ?_;simp only [Zx,ZF,Nat.reduceAdd];obtain⟨T,hT,hS⟩:∃ T,T=Qc (wm:=wm) []∧Sp wm T h [] h:= ⟨_,rfl,Sp.start ZQ Yx.nil⟩
 unfold Ztx at hL;refine WC.seq ?_;refine WC.region ?_;refine WO.w gN rfl (Zc (ZH rfl)) ?_;refine WO.nil ?_;refine Zh.Zv ?_;refine WC.seq ?_;refine WC.region ?_;refine WO.hn gN rfl (ZkT Value.string Value.bool hS) ?_;rintro _ h1 ⟨b2,eb2,rfl,hS⟩;refine WO.hu gN (Zcg (kv:=Value.string) (vv:=Value.bool) (k:= (⟨#[97,110,100]⟩:ByteArray)) (v:=true) hS k0 KN Uq (Zd fh rfl) (ZH rfl) (ZH rfl)) ?_;rintro h3 hS;refine WO.hu gN (Zcg (kv:=Value.string) (vv:=Value.bool) (k:= (⟨#[100,101,102]⟩:ByteArray)) (v:=true) hS k0 KN Uq (Zd fh rfl) (ZH rfl) (ZH rfl)) ?_;rintro h4 hS;refine WO.hu gN (Zcg (kv:=Value.string) (vv:=Value.bool) (k:= (⟨#[101,108,115,101]⟩:ByteArray)) (v:=true) hS k0 KN Uq (Zd fh rfl) (ZH rfl) (ZH rfl)) ?_;rintro h5 hS;refine WO.hu gN (Zcg (kv:=Value.string) (vv:=Value.bool) (k:= (⟨#[103,111]⟩:ByteArray)) (v:=true) hS k0 KN Uq (Zd fh rfl) (ZH rfl) (ZH rfl)) ?_;rintro h6 hS;refine WO.hu gN (Zcg (kv:=Value.string) (vv:=Value.bool) (k:= (⟨#[105,102]⟩:ByteArray)) (v:=true) hS k0 KN Uq (Zd fh rfl) (ZH rfl) (ZH rfl)) ?_;rintro h7 hS;refine WO.hu gN (Zcg (kv:=Value.string) (vv:=Value.bool) (k:= (⟨#[105,110]⟩:ByteArray)) (v:=true) hS k0 KN Uq (Zd fh rfl) (ZH rfl) (ZH rfl)) ?_;rintro h8 hS;refine WO.hu gN (Zcg (kv:=Value.string) (vv:=Value.bool) (k:= (⟨#[112,108,97,99,101]⟩:ByteArray)) (v:=true) hS k0 KN Uq (Zd fh rfl) (ZH rfl) (ZH rfl)) ?_;rintro h9 hS;refine WO.hu gN (Zcg (kv:=Value.string) (vv:=Value.bool) (k:= (⟨#[115,116,111,112]⟩:ByteArray)) (v:=true) hS k0 KN Uq (Zd fh rfl) (ZH rfl) (ZH rfl)) ?_;rintro h10 hS;refine WO.hu gN (Zcg (kv:=Value.string) (vv:=Value.bool) (k:= (⟨#[116,104,101,110]⟩:ByteArray)) (v:=true) hS k0 KN Uq (Zd fh rfl) (ZH rfl) (ZH rfl)) ?_;rintro h11 hS;refine WO.hu gN (Zcg (kv:=Value.string) (vv:=Value.bool) (k:= (⟨#[119,97,116,99,104]⟩:ByteArray)) (v:=true) hS k0 KN Uq (Zd fh rfl) (ZH rfl) (ZH rfl)) ?_;rintro h12 hS;refine WO.w gN rfl (Zb (Zd fh rfl)) ?_;refine WO.w gN rfl (Zc (Zd fh rfl)) ?_;refine WO.nil ?_;refine Zh.Zv ?_;refine WC.ret ?_;have hr:=Oi0 hL;subst hr;exact YT.Qx rfl (ZG (Zd fh rfl) Zy) ⟨_,⟨b2,rfl,rfl⟩,hT ▸ hS.only (.c k0 .n)⟩
end Go.Proofs.YtbnepjakjmnadaaGreat
end
end
section
namespace Go.Proofs.YtbnepjakjmnadaaGreat
open Go.Lf
def ZeN (F:Nat) (p0:ByteArray):Int ->(Int ->Option Bool) ->Option Bool:=fun v4 Zxl=>
 (bif decide (v4 < (p0.size:Int)) then(Ze6 p0 v4).bind fun z7=>(gd (!(decide (z7 < 97))) (Ze6 p0 v4) default).bind fun z8=>(bif((decide (z7 < 97)) || (decide (z8 > 122))) then some false else Zxl (Xm (v4 + 1))) else(Zg8 F ([(⟨#[97,110,100]⟩:ByteArray),(⟨#[100,101,102]⟩:ByteArray),(⟨#[101,108,115,101]⟩:ByteArray),(⟨#[103,111]⟩:ByteArray),(⟨#[105,102]⟩:ByteArray),(⟨#[105,110]⟩:ByteArray),(⟨#[112,108,97,99,101]⟩:ByteArray),(⟨#[115,116,111,112]⟩:ByteArray),(⟨#[116,104,101,110]⟩:ByteArray),(⟨#[119,97,116,99,104]⟩:ByteArray)]) p0).bind fun x11=>some (!x11))
def ZjY (F:Nat) (p0:ByteArray):Option Bool:=
 (bif((decide ((p0.size:Int) < 1)) || (decide ((p0.size:Int) > 8))) then some false else loop F (ZeN F p0) 0)
def ZeO (p0:ByteArray):Int ->(Int ->Option Bool) ->Option Bool:=fun v5 Zff=>
 (bif decide (v5 < (p0.size:Int)) then(Ze6 p0 v5).bind fun z8=>(gd (!(decide (z8 < 97))) (Ze6 p0 v5) default).bind fun z9=>(bif((decide (z8 < 97)) || (decide (z9 > 122))) then some false else Zff (Xm (v5 + 1))) else(bif((decide ((p0.size:Int) > 0)) && (decide ((p0.size:Int) <=8))) then(Ztx).bind fun x11=>(Zjj x11 p0 false).bind fun x15=>some (!x15) else some false))
def Zhb (F:Nat) (p0:ByteArray):Option Bool:=
 loop F (ZeO p0) 0
end Go.Proofs.YtbnepjakjmnadaaGreat
end
section
set_option maxRecDepth 20000
noncomputable section
namespace Go.Proofs.YtbnepjakjmnadaaGreat
open Go.Yj Go.Lf
theorem ZAg {F wm:Nat} {h:H} {p0:ByteArray} {r:Bool} (ZQ:wm <=h.size) (hL:ZjY F p0=some r):
 WR XX 16 #[.string p0] wm h (CP (fun(v:Value) (Gb:List (Ast wm))=>v= .bool r∧Gb= []) [] h):=by
 refine WF.begin (args:= [_]) (fn:=Tryz.f16) Kq0 (by exact rfl) Tryz.ntmps16 (by simp) ?_;simp only [Zx,ZF,Nat.reduceAdd];obtain⟨T,hT,hS⟩:∃ T,T=Qc (wm:=wm) []∧Sp wm T h [] h:= ⟨_,rfl,Sp.start ZQ Yx.nil⟩
 unfold ZjY at hL;refine WC.seq ?_;refine WC.region ?_;refine WO.w gN rfl (Zc (ZH rfl)) ?_;refine WO.nil ?_;refine Zh.Zv ?_;refine WC.seq ?_;refine WC.seq ?_;refine WC.region ?_;refine WO.w gN rfl (Zb (Zd (Za rfl fh) rfl)) ?_;refine WO.w gN rfl (Wu ZhH (Zd fh rfl)) ?_;refine WO.w gN rfl (Zn (Zd fh rfl) (ZH rfl) Z7) ?_;refine WO.w gN rfl (Zb (Zd fh rfl)) ?_;refine WO.gv (Ze.no rfl rfl rfl fh) rfl (fun hg=>(Zb (Zd (ZA rfl (Za rfl fh)) rfl))) ?_;refine WO.gv (Ze.no rfl rfl rfl (Za rfl fh)) rfl (fun hg=>(Wu ZhH (Z4 fh rfl hg))) ?_;refine WO.gv (Ze.no rfl rfl rfl (Zu rfl fh)) rfl (fun hg=>(Zn (Z4 fh rfl hg) (ZH rfl) QU)) ?_;refine WO.w gN rfl (Ja (Zd (Zu rfl (Za rfl fh)) rfl) (ZH rfl) (YQ fh)) ?_;refine WO.nil ?_;refine Zh.Zv ?_;refine WC.ZV (Zd fh rfl) (fun hc=>?_) (fun hc=>?_)
 ·replace hL:=ZB hc hL;refine WC.seq ?_;refine WC.region ?_;refine WO.w gN rfl (Zc (ZH rfl)) ?_;refine WO.nil ?_;refine Zh.Zv ?_;refine WC.ret ?_;refine Zh.ret ?_;have hr:=Oi0 hL;subst hr;exact YT.Qx rfl (ZG (Zd fh rfl) Zy) ⟨_,⟨rfl,rfl⟩,hT ▸ hS.only .n⟩
 ·replace hL:=ZC hc hL;refine WC.skip ?_;refine Zh.Zv ?_;refine WC.seq ?_;refine WC.seq ?_;refine WC.region ?_;refine WO.w gN rfl (Zc (ZH rfl)) ?_;refine WO.nil ?_;refine Zh.Zv ?_;refine WC.block ?_;refine WC.loop (WL.lift hL (fun(v4:Int) (s:Fs)=>∃ (QD:Fr) (h1:H),s= ⟨QD,[],h1,none⟩∧Sp wm T h [] h1∧QD.at 0= .string p0∧QD.at 3= .int .i64 v4) ⟨_,_,rfl,hS.only .n,(Zl rfl (Zu rfl fh)),fh⟩ ?_);clear hL hS;rintro Zxl v4 s ZyV hL ⟨QD,h1,rfl,hS,e3,e5⟩;dsimp only [ZeN] at hL;refine WC.seq ?_;refine WC.seq ?_;refine WC.region ?_;refine WO.w gN rfl (Zb (Zd e5 rfl)) ?_;refine WO.w gN rfl (Zb (Zd (Za rfl e3) rfl)) ?_;refine WO.w gN rfl (Wu ZhH (Zd fh rfl)) ?_;refine WO.w gN rfl (Zn (Zd (Zu rfl fh) rfl) (Zd fh rfl) Z7) ?_;refine WO.nil ?_;refine Zh.Zv ?_;refine WC.ZV (Zd fh rfl) (fun hc=>?_) (fun hc=>?_)
  ·replace hL:=ZB hc hL;refine WC.skip ?_;refine Zh.Zv ?_;refine WC.seq ?_;refine WC.block ?_;refine WC.seq ?_;refine WC.region ?_;refine WO.w gN rfl (Zb (Zd (ZA rfl e3) rfl)) ?_;refine WO.w gN rfl (Zb (Zd (ZA rfl (Za rfl e5)) rfl)) ?_;obtain⟨z7,hz7,hL⟩:=bind_some hL;refine WO.w gN rfl (Zb5 ZhH (Zd (Za rfl fh) rfl) (Zd fh rfl) hz7) ?_;refine WO.w gN rfl (Zn (Zd fh rfl) (ZH rfl) Z7) ?_;refine WO.w gN rfl (Zb (Zd fh rfl)) ?_;refine WO.gv (Ze.no rfl rfl rfl fh) rfl (fun hg=>(Zb (Zd (Zl rfl (Za rfl e3)) rfl))) ?_;refine WO.gv (Ze.no rfl rfl rfl (Za rfl fh)) rfl (fun hg=>(Zb (Zd (Zl rfl (Zu rfl e5)) rfl))) ?_;obtain⟨z8,hz8,hL⟩:=Y2 hL;refine WO.gv (Ze.no rfl rfl rfl (Zu rfl fh)) rfl (fun hg=>(Zb5 ZhH (Z4 (Za rfl fh) rfl hg) (Z4 fh rfl hg) (hz8 hg))) ?_;refine WO.gv (Ze.no rfl rfl rfl (Zu rfl (Za rfl fh))) rfl (fun hg=>(Zn (Z4 fh rfl hg) (ZH rfl) QU)) ?_;refine WO.w gN rfl (Ja (Zd (ZA rfl fh) rfl) (ZH rfl) (YQ fh)) ?_;refine WO.nil ?_;refine Zh.Zv ?_;refine WC.ZV (Zd fh rfl) (fun hc=>?_) (fun hc=>?_)
   ·replace hL:=ZB hc hL;refine WC.seq ?_;refine WC.region ?_;refine WO.w gN rfl (Zc (ZH rfl)) ?_;refine WO.nil ?_;refine Zh.Zv ?_;refine WC.ret ?_;refine ZK.ret ?_;refine Zh.ret ?_;refine ZT.ret ?_;refine ZK.ret ?_;refine Zh.ret ?_;have hr:=Oi0 hL;subst hr;exact YT.Qx rfl (ZG (Zd fh rfl) Zy) ⟨_,⟨rfl,rfl⟩,hT ▸ hS.only .n⟩
   ·replace hL:=ZC hc hL;refine WC.skip ?_;refine ZK.Zv ?_;refine Zh.Zv ?_;refine WC.region ?_;refine WO.w gN rfl (Zb (Zd (Zl rfl (ZA rfl (Zu rfl e5))) rfl)) ?_;refine WO.w gN rfl (Zn (Zd fh rfl) (ZH rfl) ZN) ?_;refine WO.w gN rfl (Zc (Zd fh rfl)) ?_;refine WO.nil ?_;exact ZT.Zv (ZyV _ _ hL ⟨_,_,rfl,hS.only .n,(Zl rfl (Zl rfl (Za rfl e3))),fh⟩)
  ·replace hL:=ZC hc hL;refine WC.exit ?_;refine Zh.exit ?_;refine ZT.exit ?_;refine ZK.here ?_;refine Zh.Zv ?_;refine WC.seq ?_;refine WC.region ?_;refine WO.hn gN rfl (Zdb (e:=YJ) hS Jv Zaw ZkB rfl rfl rfl (Ym (ZH rfl) (Ym (ZH rfl) (Ym (ZH rfl) (Ym (ZH rfl) (Ym (ZH rfl) (Ym (ZH rfl) (Ym (ZH rfl) (Ym (ZH rfl) (Ym (ZH rfl) (Ym (ZH rfl) Y6)))))))))) rfl [((),(⟨#[97,110,100]⟩:ByteArray)),((),(⟨#[100,101,102]⟩:ByteArray)),((),(⟨#[101,108,115,101]⟩:ByteArray)),((),(⟨#[103,111]⟩:ByteArray)),((),(⟨#[105,102]⟩:ByteArray)),((),(⟨#[105,110]⟩:ByteArray)),((),(⟨#[112,108,97,99,101]⟩:ByteArray)),((),(⟨#[115,116,111,112]⟩:ByteArray)),((),(⟨#[116,104,101,110]⟩:ByteArray)),((),(⟨#[119,97,116,99,104]⟩:ByteArray))] rfl (xs:= [(⟨#[97,110,100]⟩:ByteArray),(⟨#[100,101,102]⟩:ByteArray),(⟨#[101,108,115,101]⟩:ByteArray),(⟨#[103,111]⟩:ByteArray),(⟨#[105,102]⟩:ByteArray),(⟨#[105,110]⟩:ByteArray),(⟨#[112,108,97,99,101]⟩:ByteArray),(⟨#[115,116,111,112]⟩:ByteArray),(⟨#[116,104,101,110]⟩:ByteArray),(⟨#[119,97,116,99,104]⟩:ByteArray)]) rfl (by intro q hq;simp only [List.mem_cons,List.not_mem_nil,or_false] at hq;rcases hq with rfl | rfl | rfl | rfl | rfl | rfl | rfl | rfl | rfl | rfl <;> first | exact trivial) rfl) ?_;rintro _ h10 ⟨b9,eb9,rfl,hS⟩;refine WO.w gN rfl (Zb (Zd (ZA rfl (Za rfl e3)) rfl)) ?_;obtain⟨x11,ZhR,hL⟩:=bind_some hL;refine WO.cp gN rfl (Yv.fn Zlv (Zf (Zd (Za rfl fh) rfl) (Zf (Zd fh rfl) Zm))) (Zg7 (hS.ord k0) ZhR) ?_;refine WO.w gN rfl (YV (Zd fh rfl)) ?_;refine WO.w gN rfl (Zc (Zd fh rfl)) ?_;refine WO.nil ?_;refine Zh.Zv ?_;refine WC.ret ?_;have hr:=Oi0 hL;subst hr;exact YT.Qx rfl (ZG (Zd fh rfl) Zy) ⟨_,⟨rfl,rfl⟩,hT ▸ hS.only .n⟩
theorem ZnS {F:Nat} {h:H} {p0:ByteArray} {r:Bool} (hL:ZjY F p0=some r):Pure XX 16 #[.string p0] h (.bool r):=
 WR.Us rfl (ZAg (Nat.le_refl _) hL)
theorem ZAh {F wm:Nat} {h:H} {p0:ByteArray} {r:Bool} (ZQ:wm <=h.size) (hL:Zhb F p0=some r):
 WR XX 15 #[.string p0] wm h (CP (fun(v:Value) (Gb:List (Ast wm))=>v= .bool r∧Gb= []) [] h):=by
 refine WF.begin (args:= [_]) (fn:=Tryz.f15) Kq0 (by exact rfl) Tryz.ntmps15 (by simp) ?_;simp only [Zx,ZF,Nat.reduceAdd];obtain⟨T,hT,hS⟩:∃ T,T=Qc (wm:=wm) []∧Sp wm T h [] h:= ⟨_,rfl,Sp.start ZQ Yx.nil⟩
 unfold Zhb at hL;refine WC.seq ?_;refine WC.region ?_;refine WO.w gN rfl (Zc (ZH rfl)) ?_;refine WO.nil ?_;refine Zh.Zv ?_;refine WC.seq ?_;refine WC.seq ?_;refine WC.region ?_;refine WO.w gN rfl (Zb (Zd (Za rfl fh) rfl)) ?_;refine WO.w gN rfl (Wu ZhH (Zd fh rfl)) ?_;refine WO.w gN rfl (Zb (ZH rfl)) ?_;refine WO.nil ?_;refine Zh.Zv ?_;refine WC.block ?_;refine WC.loop (WL.lift hL (fun(v5:Int) (s:Fs)=>∃ (QD:Fr) (h1:H),s= ⟨QD,[],h1,none⟩∧Sp wm T h [] h1∧QD.at 0= .string p0∧QD.at 5= .int .i64 (p0.size:Int)∧QD.at 6= .int .i64 v5) ⟨_,_,rfl,hS.only .n,(ZA rfl fh),(Za rfl fh),fh⟩ ?_);clear hL hS;rintro Zff v5 s ZgD hL ⟨QD,h1,rfl,hS,e3,e4,e6⟩;dsimp only [ZeO] at hL;refine WC.seq ?_;refine WC.region ?_;refine WO.w gN rfl (Zn (Zd e6 rfl) (Zd e4 rfl) Z7) ?_;refine WO.nil ?_;refine Zh.Zv ?_;refine WC.seq ?_;refine WC.ZV (Zd fh rfl) (fun hc=>?_) (fun hc=>?_)
 ·replace hL:=ZB hc hL;refine WC.skip ?_;refine Zh.Zv ?_;refine WC.seq ?_;refine WC.block ?_;refine WC.seq ?_;refine WC.region ?_;refine WO.w gN rfl (Zb (Zd (Za rfl e6) rfl)) ?_;refine WO.w gN rfl (Zc (Zd fh rfl)) ?_;refine WO.nil ?_;refine Zh.Zv ?_;refine WC.seq ?_;refine WC.region ?_;refine WO.w gN rfl (Zb (Zd (Zu rfl (Za rfl e3)) rfl)) ?_;refine WO.w gN rfl (Zb (Zd (Za rfl fh) rfl)) ?_;obtain⟨z8,hz8,hL⟩:=bind_some hL;refine WO.w gN rfl (Zb5 ZhH (Zd (Za rfl fh) rfl) (Zd fh rfl) hz8) ?_;refine WO.w gN rfl (Zn (Zd fh rfl) (ZH rfl) Z7) ?_;refine WO.w gN rfl (Zb (Zd fh rfl)) ?_;refine WO.gv (Ze.no rfl rfl rfl fh) rfl (fun hg=>(Zb (Zd (Zl rfl e3) rfl))) ?_;refine WO.gv (Ze.no rfl rfl rfl (Za rfl fh)) rfl (fun hg=>(Zb (Zd (ZA rfl (Zu rfl fh)) rfl))) ?_;obtain⟨z9,hz9,hL⟩:=Y2 hL;refine WO.gv (Ze.no rfl rfl rfl (Zu rfl fh)) rfl (fun hg=>(Zb5 ZhH (Z4 (Za rfl fh) rfl hg) (Z4 fh rfl hg) (hz9 hg))) ?_;refine WO.gv (Ze.no rfl rfl rfl (Zu rfl (Za rfl fh))) rfl (fun hg=>(Zn (Z4 fh rfl hg) (ZH rfl) QU)) ?_;refine WO.w gN rfl (Ja (Zd (ZA rfl fh) rfl) (ZH rfl) (YQ fh)) ?_;refine WO.nil ?_;refine Zh.Zv ?_;refine WC.ZV (Zd fh rfl) (fun hc=>?_) (fun hc=>?_)
  ·replace hL:=ZB hc hL;refine WC.seq ?_;refine WC.region ?_;refine WO.w gN rfl (Zc (ZH rfl)) ?_;refine WO.nil ?_;refine Zh.Zv ?_;refine WC.ret ?_;refine ZK.ret ?_;refine Zh.ret ?_;refine ZT.ret ?_;refine ZK.ret ?_;refine Zh.ret ?_;have hr:=Oi0 hL;subst hr;exact YT.Qx rfl (ZG (Zd fh rfl) Zy) ⟨_,⟨rfl,rfl⟩,hT ▸ hS.only .n⟩
  ·replace hL:=ZC hc hL;refine WC.skip ?_;refine ZK.Zv ?_;refine Zh.Zv ?_;refine WC.region ?_;refine WO.w gN rfl (Zn (Zd (Zl rfl (ZA rfl (Za rfl e6))) rfl) (ZH rfl) ZN) ?_;refine WO.w gN rfl (Zb (Zd fh rfl)) ?_;refine WO.nil ?_;exact ZT.Zv (ZgD _ _ hL ⟨_,_,rfl,hS.only .n,(Zl rfl (ZA rfl (Zu rfl (Za rfl e3)))),(Zl rfl (ZA rfl (Zu rfl (Za rfl e4)))),fh⟩)
 ·replace hL:=ZC hc hL;refine WC.exit ?_;refine Zh.exit ?_;refine ZT.exit ?_;refine ZK.here ?_;refine Zh.Zv ?_;refine WC.seq ?_;refine WC.region ?_;refine WO.w gN rfl (Zb (Zd (Za rfl e3) rfl)) ?_;refine WO.w gN rfl (Wu ZhH (Zd fh rfl)) ?_;refine WO.w gN rfl (Zn (Zd fh rfl) (ZH rfl) QU) ?_;refine WO.w gN rfl (Zb (Zd fh rfl)) ?_;refine WO.gv (Ze.yes rfl rfl rfl fh) rfl (fun hg=>(Zb (Zd (ZA rfl (Za rfl e3)) rfl))) ?_;refine WO.gv (Ze.yes rfl rfl rfl (Za rfl fh)) rfl (fun hg=>(Wu ZhH (Z4 fh rfl hg))) ?_;refine WO.gv (Ze.yes rfl rfl rfl (Zu rfl fh)) rfl (fun hg=>(Zn (Z4 fh rfl hg) (ZH rfl) XI)) ?_;refine WO.w gN rfl (Ye (Zd (Zu rfl (Za rfl fh)) rfl) (YQ fh) (ZH rfl)) ?_;refine WO.w gN rfl (Zb (Zd fh rfl)) ?_;refine WO.ZjJ (Ze.yes rfl rfl rfl fh) (fun hk10=>?_) (fun hk10=>?_)
  ·replace hL:=ZB hk10 hL;obtain⟨x11,ZhR,hL⟩:=bind_some hL;refine WO.cl (Ze.on (Ze.yes rfl rfl rfl fh) hk10) rfl (Yv.fn ZCV Zm) hS .n (fun g' hz hf hO=>Zz0 (by rw [hz];exact hS.hw) ZhR) ?_;rintro _ h13 _ ⟨m12,rfl,rfl⟩ hS;refine WO.w (Ze.on (Ze.yes rfl rfl rfl (Za rfl fh)) hk10) rfl (Zb (Zd (Zl rfl (Zu rfl (Za rfl e3))) rfl)) ?_;obtain⟨x15,ZjC,hL⟩:=bind_some hL;refine WO.w (Ze.on (Ze.yes rfl rfl rfl (Zu rfl fh)) hk10) rfl (Zd2 (kv:=Value.string) (vv:=Value.bool) (k:=p0) (z:=false) KN Uq ZkC (Zd (Za rfl fh) rfl) (Zd fh rfl) (hS.get k0).at_ ZjC (w:= .bool x15) rfl) ?_;refine WO.w (Ze.on (Ze.yes rfl rfl rfl (Zu rfl (Za rfl fh))) hk10) rfl (YV (Zd fh rfl)) ?_;refine WO.w gN rfl (Zkk (Zd (ZA rfl fh) rfl) hk10 (Zd fh rfl)) ?_;refine WO.w gN rfl (Zc (Zd fh rfl)) ?_;refine WO.nil ?_;refine Zh.Zv ?_;refine WC.ret ?_;have hr:=Oi0 hL;subst hr;exact YT.Qx rfl (ZG (Zd fh rfl) Zy) ⟨_,⟨rfl,rfl⟩,hT ▸ hS.only .n⟩
  ·replace hL:=ZC hk10 hL;refine WO.Zgi (Ze.yes rfl rfl rfl fh) hk10 rfl ?_;refine WO.Zgi (Ze.yes rfl rfl rfl (Za rfl fh)) hk10 rfl ?_;refine WO.Zgi (Ze.yes rfl rfl rfl (Zu rfl fh)) hk10 rfl ?_;refine WO.Zgi (Ze.yes rfl rfl rfl (Zu rfl (Za rfl fh))) hk10 rfl ?_;refine WO.w gN rfl (Zkl (Zd (ZA rfl fh) rfl) hk10 (ZH rfl)) ?_;refine WO.w gN rfl (Zc (Zd fh rfl)) ?_;refine WO.nil ?_;refine Zh.Zv ?_;refine WC.ret ?_;have hr:=Oi0 hL;subst hr;exact YT.Qx rfl (ZG (Zd fh rfl) Zy) ⟨_,⟨rfl,rfl⟩,hT ▸ hS.only .n⟩
theorem Zha {F:Nat} {h:H} {p0:ByteArray} {r:Bool} (hL:Zhb F p0=some r):Pure XX 15 #[.string p0] h (.bool r):=
 WR.Us rfl (ZAh (Nat.le_refl _) hL)
end Go.Proofs.YtbnepjakjmnadaaGreat
end
end
section
namespace Go.Proofs.YtbnepjakjmnadaaGreat
open Go.Lf
end Go.Proofs.YtbnepjakjmnadaaGreat
end
section
set_option maxRecDepth 20000
noncomputable section
namespace Go.Proofs.YtbnepjakjmnadaaGreat
open Go.Yj Go.Lf
end Go.Proofs.YtbnepjakjmnadaaGreat
end
end
section
noncomputable section
namespace Go.Proofs.YtbnepjakjmnadaaGreat
open Go.Yj Go.RowKit
def Ky (fn:Func):Code:=fn.body.getD .skip
def Ur:Nat ->Code ->Code
 | 0,c=>c
 | k + 1,.seq _ b=>Ur k b
 | _ + 1,c=>c
def Zf4 (ih:Qg ->Option YF) (n:Nat):Nat ->Code ->Fs ->Option Fs
 | 0,_,s=>some s
 | k + 1,.seq a b,s=>match ih (.code a n 0 none s) with
   | some (.code .normal s1)=>Zf4 ih n k b s1
   | _=>none
 | _ + 1,_,_=>none
def Zft:Nat ->Fr
 | 0=>.nil
 | n + 1=>Tr.set (Zft n) n ZqM
def ZwC (n:Nat):Fs:= {fr:=Zft n,ds:= [],h:= ⟨.nil,0⟩}
theorem Zmz (n t:Nat):(Zft n).at t=if t < n then ZqM else undef:=by
 induction n with
 | zero=>rfl
 | succ n ih=>
   unfold Fr.at at ih ⊢;rw [Zft,Tr.QI];by_cases h:t=n
   ·subst h;simp
   ·rw [if_neg h,ih];by_cases h2:t < n
    ·rw [if_pos h2,if_pos (by omega)]
    ·rw [if_neg h2,if_neg (by omega)]
theorem Zud {n:Nat} {a:Act} {w:World} (h1:a.tmps.size=n) (h2:a.defers= []):Inv Zk7 n (ZwC n) a w:=by
 refine⟨⟨fun _ _ _ e=>(by cases e),fun _ _ _ e=>(by cases e),fun _ _ _ _ _ e=>(by cases e)⟩,⟨h1,fun t ht=>?_⟩,?_⟩
 ·have e:(ZwC n).fr.at t=if t < n then ZqM else undef:=Zmz n t
  rw [e] at ht ⊢;by_cases h:t < n
  ·rw [if_pos h] at ht;cases ht
  ·rw [if_neg h,Array.getD_eq_getD_getElem?,Array.getElem?_eq_none (by omega)];exact VR.undef _
 ·rw [h2];exact .nil
variable {X:Ctx} {k:Nat}
theorem Zjd {ih:Qg ->Option YF} (HI:∀ j r,ih j=some r ->Yu X j r) {n:Nat} {Q:Exit ->Act ->World ->Prop}:∀ (m:Nat) (c:Code) (s s':Fs),Zf4 ih n m c s=some s' ->∀ (ρ:Ren) (a:Act) (w:World),Inv ρ n s a w ->
 (∀ ρ' a' w',Inv ρ' n s' a' w' ->Stp 0 ρ s.h w ρ' s'.h w' ->(Ur m c).wpIn base 0 X.P Q a' w') ->c.wpIn base 0 X.P Q a w:=by
 intro m
 induction m with
 | zero=>intro c s s' h ρ a w hi hk;cases h;exact hk ρ a w hi (Stp.refl _ _ _ _)
 | succ m ihm=>
   intro c s s' h ρ a w hi hk;cases c with
   | seq x y=>
     simp only [Zf4] at h;split at h
     ·rename_i s1 h1;refine wpIn_seq (wpIn_mono (HI _ _ h1 ρ a w base (Nat.zero_le _) hi rfl) ?_);rintro e' a' w' ⟨ρ',he,hi',hst⟩;cases he;exact ihm y s1 s' h ρ' a' w' hi' fun ρ2 a2 w2 hi2 ZfA=>hk ρ2 a2 w2 hi2 (hst.trans hi.rel.lt ZfA)
     ·cases h
   | _=>cases h
theorem ZpX {ρ ρ':Ren} {h':H} {w w':World} {h:H} (hρ:ρ=Zk7) (st:Stp 0 ρ h w ρ' h' w'):Below w.heap.size w w':=by
 subst hρ;exact st.below fun i b d _ e=>by cases e
end Go.Proofs.YtbnepjakjmnadaaGreat
end
end
section
noncomputable section
namespace Go.Proofs.YtbnepjakjmnadaaGreat
open Go.Yj Go.RowKit
def mkS (n:Nat) (fv:List (Nat×Value)) (ov:List (Nat×YN)) (sz:Nat):Fs:=
 {fr:=fv.foldr (fun p f=>Tr.set f p.1 p.2) (Zft n),ds:= [],h:= ⟨ov.foldr (fun p t=>Tr.set t p.1 p.2) .nil,sz⟩}
def Zk0 (n:Nat) (K O:List Nat) (s:Fs):Fs:=mkS n (K.map fun t=>(t,s.fr.at t)) (O.map fun i=>(i,s.h.at i)) s.h.size
def QO (ih:Qg ->Option YF) (n:Nat) (K O:List Nat) (m:Nat) (c:Code) (s:Fs):Option Fs:=
 match Zf4 ih n m c s with
 | some s1=>match s1.ds with
   | []=>some (Zk0 n K O s1)
   | _::_=>none
 | none=>none
theorem ZhN {ih:Qg ->Option YF} {n m:Nat} {K O:List Nat} {c:Code} {s s':Fs} (h:QO ih n K O m c s=some s'):∃ s1,Zf4 ih n m c s=some s1∧s1.ds= []∧s'=Zk0 n K O s1:=by
 unfold QO at h;split at h
 ·rename_i s1 h1;split at h
  ·rename_i h2;cases h;exact⟨s1,h1,h2,rfl⟩
  ·cases h
 ·cases h
theorem ZlS {α:Type} (g:Nat ->α) (t0:Tr α):∀ (K:List Nat) (t:Nat),((K.map fun t=>(t,g t)).foldr (fun p f=>Tr.set f p.1 p.2) t0).get t=if t ∈ K then some (g t) else t0.get t:=by
 intro K
 induction K with
 | nil=>intro t;simp
 | cons k K ih=>
   intro t;simp only [List.map_cons,List.foldr_cons,Tr.QI,ih];by_cases h:t=k
   ·subst h;simp
   ·simp [h]
theorem ZrA {ρ:Ren} {n:Nat} {K O:List Nat} {s:Fs} {a:Act} {w:World} (hi:Inv ρ n s a w) (hd:s.ds= []):Inv ρ n (Zk0 n K O s) a w:=by
 have hat:∀ i,(Zk0 n K O s).h.at i=if i ∈ O then s.h.at i else .dead:=by
  intro i;show H.at ⟨_,s.h.size⟩ i=_;by_cases hlt:i < s.h.size
  ·have hb:Nat.blt i s.h.size=true:=by rw [Nat.blt_eq];exact hlt
   have hf:=ZlS (fun i=>s.h.at i) Tr.nil O i;show(bif Nat.blt i s.h.size then(Tr.get (List.foldr _ Tr.nil (O.map fun i=>(i,s.h.at i))) i).getD YN.dead else YN.dead)=_;rw [hb,Cq1,hf];by_cases ho:i ∈ O
   ·rw [if_pos ho,if_pos ho];rfl
   ·rw [if_neg ho,if_neg ho];rfl
  ·have hb:Nat.blt i s.h.size=false:=by rw [Bool.eq_false_iff];intro z;rw [Nat.blt_eq] at z;omega
   rw [H.KU (h:=s.h) (by omega)];simp [H.at,hb]
 refine⟨⟨hi.rel.dom,fun i b d e=>?_,fun i j b d d' e e' ho hl=>?_⟩,⟨hi.fr.size,fun t ht=>?_⟩,?_⟩
 ·rw [hat];split
  ·exact hi.rel.obj i b d e
  ·trivial
 ·rw [hat] at ho hl;split at ho
  ·split at hl
   ·exact hi.rel.inj i j b d d' e e' ho hl
   ·cases hl
  ·cases ho
 ·have e:(Zk0 n K O s).fr.at t=if t ∈ K then s.fr.at t else(Zft n).at t:=by
   have hf:=ZlS (fun t=>s.fr.at t) (Zft n) K t;show(Tr.get (List.foldr _ (Zft n) (K.map fun t=>(t,s.fr.at t))) t).getD undef=_;rw [hf];split <;> rfl
  rw [e] at ht ⊢;split at ht
  ·rw [if_pos (by assumption)];exact hi.fr.val t ht
  ·rename_i hn;rw [if_neg hn];rw [Zmz] at ht ⊢;by_cases h:t < n
   ·rw [if_pos h] at ht;cases ht
   ·have:=hi.fr.size;rw [if_neg h,Array.getD_eq_getD_getElem?,Array.getElem?_eq_none (by omega)];exact VR.undef _
 ·have h:=hi.ds;rw [hd] at h;exact h
variable {X:Ctx}
inductive UQ (X:Ctx) (fn:Func):Code ->Fs ->Prop
 | last {c:Code} {s:Fs} {k:Nat} (h:isTrue (Zd1 (fun e s=>match xPM e with
    | some pm=>ev (cfg X fun _=>false) k (.leave fn 0 pm s)
    | none=>none) (ev (cfg X fun _=>false) k (.code c fn.ntmps 0 none s)))=true):UQ X fn c s
 | seg {c:Code} {s s':Fs} {k:Nat} (m:Nat) (K O:List Nat) (h:QO (ev (cfg X fun _=>false) k) fn.ntmps K O m c s=some s') (t:UQ X fn (Ur m c) s'):UQ X fn c s
theorem ZpU (m:Nat):∀ (k:Nat) (c:Code),Ur m (Ur k c)=Ur (k + m) c:=by
 intro k
 induction k with
 | zero=>intro c;rw [Nat.zero_add];rfl
 | succ k ih=>
   intro c;rw [Nat.add_right_comm];cases c with
   | seq a b=>exact ih b
   | _=>cases m <;> rfl
theorem UQ.ZkQ {fn:Func} {body:Code} {s s':Fs} {k pos:Nat} (m:Nat) {K O:List Nat} (h:QO (ev (cfg X fun _=>false) k) fn.ntmps K O m (Ur pos body) s=some s') (t:UQ X fn (Ur (pos + m) body) s'):UQ X fn (Ur pos body) s:=
 .seg m K O h (by rw [ZpU];exact t)
theorem Zrg {ρ ρ':Ren} {w w':World} {h' h2:H} (st:Stp 0 ρ ⟨.nil,0⟩ w ρ' h' w') (hs:h2.size=h'.size):Stp 0 ρ ⟨.nil,0⟩ w ρ' h2 w':=
 ⟨st.ext,by rw [hs];exact st.size,fun i hi=>absurd hi (Nat.not_lt_zero _),fun i hi=>absurd hi (Nat.not_lt_zero _),fun i hi=>absurd hi (Nat.not_lt_zero _),st.os,st.tape,st.output,st.Y9,st.frame,st.JF⟩
theorem UQ.sound {fn:Func} (hm:X.P.follows .mixedOrders=true) {c:Code} {s:Fs} (h:UQ X fn c s):∀ (ρ:Ren) (a:Act) (w w0:World),Inv ρ fn.ntmps s a w ->Stp 0 Zk7 ⟨.nil,0⟩ w0 ρ s.h w ->
 c.wpIn base 0 X.P (bodyPostM base 0 X.P fn (fun e w'=>e= .returned (.bool true)∧Below w0.heap.size w0 w')) a w:=by
 have hd0:∀ i p,Zk7 i=some p ->i < (⟨.nil,0⟩:H).size:=fun i p e=>by cases e
 induction h with
 | last h=>
   intro ρ a w w0 hi Znl;rename_i s k;obtain⟨h',hc⟩:=Zli h;obtain⟨e,s1,ha,hk⟩:=QJ hc;have ka:=ZbJ (X:=X) (YK:=fun _=>false) hm k _ _ ha;split at hk
   ·rename_i pm hpm;have hj:=ZbJ (X:=X) (YK:=fun _=>false) hm k _ _ hk;refine wpIn_mono (ka ρ a w base (Nat.zero_le _) hi rfl) ?_;rintro e' a' w' ⟨ρ',he,hi',hst⟩
    have fin:∀ e2 w2,Uk 0 ρ' s1.h w' (.ret (.bool true)) h' e2 w2 ->e2= .returned (.bool true)∧Below w0.heap.size w0 w2:=by
     rintro e2 w2 ⟨ρ2,hr,hrel,ZfA⟩;have hbb:=ZpX rfl ((Znl.trans hd0 hst).trans hd0 ZfA);refine⟨?_,hbb⟩;cases hr with
     | ret hv=>cases hv;rfl
    cases he with
    | normal=>cases hpm;exact hj ρ' _ a' .returning w' _ (Nat.zero_le _) hi' .ret fin
    | ret=>cases hpm;exact hj ρ' _ a' .returning w' _ (Nat.zero_le _) hi' .ret fin
    | panic hv'=>cases hpm;exact hj ρ' _ a' _ w' _ (Nat.zero_le _) hi' (.Yn hv') fin
    | exit id=>cases hpm
    | goto l=>cases hpm
   ·cases hk
 | seg m K O h t iht=>
   intro ρ a w w0 hi Znl;rename_i c s s' k;obtain⟨s1,h1,h2,rfl⟩:=ZhN h;refine Zjd (ZbJ (X:=X) (YK:=fun _=>false) hm k) m c s s1 h1 ρ a w hi fun ρ' a' w' hi' hst=>?_
   exact iht ρ' a' w' w0 (ZrA hi' h2) (Zrg (Znl.trans hd0 hst) rfl)
theorem Zn2 (X:Ctx) (hX:X.P=Tryz.prog) {f:FuncId} (hlt:f < nfs) {fn:Func} {c:Code} (hf:Tryz.prog.funcs[f]? =some fn) (hb:fn.body=some c) (h:UQ X fn c (ZwC fn.ntmps)) (w:World):
 CallsIn base 0 Tryz.prog f #[] w fun e w'=>e= .returned (.bool true)∧Below w.heap.size w w':=by
 rw [← hX] at hf ⊢;refine(callsIn_of_wp_marks hf hb hlt (h.sound (by rw [hX];exact mixed) Zk7 _ w w (Zud ?_ rfl) (Stp.refl _ _ _ _)) ?_)
 ·simp
 ·rfl
end Go.Proofs.YtbnepjakjmnadaaGreat
end
end
