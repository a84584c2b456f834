/- Orders Part 9 of the proof. -/
import Derived.Test.YtbmbbcaaimehkaaGreatOa8
set_option linter.all false
set_option maxHeartbeats 2000000
section
noncomputable section
namespace Go.Yr
open Go.Lf
class Zbz (P:Program) (t:TypeId):Prop where
 out:Yy P t=some false
class Zk7 (P:Program) (t:TypeId):Prop where
 out:Yy P t=some true
class SzF (P:Program) (t:TypeId) (n:outParam Nat):Prop where
 out:Yg P t=some n
class Qb (P:Program) (t:TypeId) (f:Nat) (o:outParam Nat):Prop where
 out:ZE P t f o
class ZeR (P:Program) (t:TypeId) (e:outParam TypeId):Prop where
 out:P.underlying t=some (.slice e)
class ZEa (P:Program) (t:TypeId):Prop where
 out:P.underlying t=some .bool
class Zal (P:Program) (t:TypeId) (v:outParam Value):Prop where
 out:YM P t=some v
theorem ia {v:Value} (h:QV v=false):QV v=false:=h
theorem WV {fr:Fr} {t:Nat} {c:Bool} {v:Value} (h:fr.at t=cond c v undef) (ha:QV v=false) (hc:c=true):Ym fr (.tmp t)=some v:=YL h ha hc
section
variable {X:Ctx} {h:H} {fr:Fr} {ty:TypeId} {p':String} {af:Array Edge} {g:Option (Nat×Bool)} {d:Option Tmp} {wm:Nat} {T:Nat ->Prop} {h0:H} {G Gr:List (Ast wm)}
theorem ZIY {x:Operand} {t:TypeId} {f off b o:Nat} [hf:Qb X.P t f off] (hx:Ym fr x=some (.pointer (some ⟨b,o,none⟩))):Xq X h (Ym fr) ⟨d,.fieldAddr t x f,ty,p',af,g⟩=some (.val (.pointer (some ⟨b,o + off,none⟩)),.none):=Ky hf.out hx
theorem ZMn {x:Operand} {t:TypeId} {b oo:Nat} {vs:List Value} {v:Value} [ht:Zbz X.P t] (hx:Ym fr x=some (.pointer (some ⟨b,oo,none⟩))) (hS:Sp wm T h0 G h) (pp:Pk G (bx wm b vs) Gr) (hv:vs[oo]? =some v):
 Xq X h (Ym fr) ⟨d,.load t x,ty,p',af,g⟩=some (.val v,.none):=ZU ht.out hx (hS.atB pp) (Nat.zero_add _).symm hv
theorem ZIX {x:Operand} {t:TypeId} {b oo sz:Nat} {vs ws:List Value} [ht:Zk7 X.P t] [hs:SzF X.P t sz] (hx:Ym fr x=some (.pointer (some ⟨b,oo,none⟩))) (hS:Sp wm T h0 G h) (pp:Pk G (bx wm b vs) Gr) (hj:Nat.ble (oo + sz) vs.length=true) (hv:(vs.drop oo).take sz=ws):
 Xq X h (Ym fr) ⟨d,.load t x,ty,p',af,g⟩=some (.val (.agg ws.toArray),.none):=YX ht.out hs.out hx (hS.atB pp) (Nat.zero_add _).symm hj hv
theorem ZIZ {dd:Tmp} {x:Operand} {t:TypeId} {v:Value} {vs:List Value} (hx:Ym fr x=some v) (hS:Sp wm T h0 G h) (hv:v.cells.toList=vs):
 HN X wm ⟨some dd,.box t x,ty,p',af,g⟩ fr h (fun v h'=>∃ b,h.size=b∧v= .pointer (some ⟨b,0,none⟩)∧Sp wm T h0 (bx wm b vs::G) h'):=Zzx hS hx hv
theorem ZI0 {dd:Tmp} {t:TypeId} {v:Value} {vs:List Value} [hz:Zal X.P t v] (hS:Sp wm T h0 G h) (hv:v.cells.toList=vs):
 HN X wm ⟨some dd,.alloc t,ty,p',af,g⟩ fr h (fun v h'=>∃ b,h.size=b∧v= .pointer (some ⟨b,0,none⟩)∧Sp wm T h0 (bx wm b vs::G) h'):=Zpv hS hz.out hv
theorem ZMm {x y:Operand} {t:TypeId} {b o sz:Nat} {cs cs' vs:List Value} {v:Value} [hs:SzF X.P t sz] (hx:Ym fr x=some (.pointer (some ⟨b,o,none⟩))) (hS:Sp wm T h0 G h) (pk:Pk G (bx wm b cs) Gr) (hy:Ym fr y=some v)
 (hvs:v.cells.toList=vs) (hn:Nat.beq vs.length sz=true) (hl:Nat.ble (o + sz) cs.length=true) (hc:vs.all Value.oneCell'=true) (hv:splice cs o vs=cs'):
 HU X wm ⟨none,.store t x y,ty,p',af,g⟩ fr h (fun i=>i=b) (fun h'=>Sp wm T h0 (bx wm b cs'::Gr) h'):=ZbW hS pk hs.out hx hy hvs hn hl hc hv
theorem ZIW {x:Operand} {t e':TypeId} {a:Option Addr} {mm cc dd:Nat} [hu:ZeR X.P t e'] (hx:Ym fr x=some (.slice a mm cc)):
 Xq X h (Ym fr) ⟨some dd,.call {callee:= .builtin .len,args:=#[x],argTypes:=#[t]},ty,p',af,g⟩=some (.val (.int .i64 (mm:Int)),.none):=ZfO hu.out hx rfl
end
section
variable {X:Ctx} {n wm:Nat} {rd:Option Nat} {ops:Array Oper} {l:List Oper} {fr:Fr} {ds:List Deferred} {h:H} {ty:TypeId} {p:String} {af:Array Edge} {g:Option (Nat×Bool)} {sf:ST} {m:Nat}
theorem WX.w2 {Q:Fr ->H ->Prop} {d:Nat} {op:Op} {v:Value} (hg:Yp ops ⟨some d,op,ty,p,af,g⟩ fr) (hd:Nat.blt d n=true) (hM:okM ops sf m ⟨some d,op,ty,p,af,g⟩=true) (ha:Xq X h (Ym fr) ⟨some d,op,ty,p,af,g⟩=some (.val v,.none)) (k:WX X n wm rd ops sf (m + 1) h l (Tr.set fr d v) Q):
 WX X n wm rd ops sf m h (⟨some d,op,ty,p,af,g⟩::l) fr Q:=WX.w hg hd ha k hM
theorem WX.gv2 {Q:Fr ->H ->Prop} {d:Nat} {op:Op} {c:Bool} {v:Value} (hg:Zt ops ⟨some d,op,ty,p,af,g⟩ fr c) (hd:Nat.blt d n=true) (hM:okM ops sf m ⟨some d,op,ty,p,af,g⟩=true) (ha:c=true ->Xq X h (Ym fr) ⟨some d,op,ty,p,af,g⟩=some (.val v,.none)) (k:WX X n wm rd ops sf (m + 1) h l (Tr.set fr d (cond c v undef)) Q):
 WX X n wm rd ops sf m h (⟨some d,op,ty,p,af,g⟩::l) fr Q:=WX.gv hg hd ha k hM
end
structure Kp (q:Prop):Prop where
 out:q
section
variable {X:Ctx} {n wm:Nat} {rd:Option Nat} {Q:XX ->Fs ->Prop}
theorem E0 {p:Prop}(h:p:=by(focus (repeat (first | with_reducible exact fh | ((with_reducible apply YK);exact rfl) | ((with_reducible apply YU);exact rfl) | ((with_reducible apply YP);exact rfl) | ((with_reducible apply ZA);exact rfl) | with_reducible assumption));first|done|fail)):p:=h
theorem cn {c:Operand} {a b:Code} {t:Bool} {fr:Fr} {ds:List Deferred} {h:H} {α:Type} {x y r:α} (hL:(bif t then x else y)=r) (h1:t=true ->x=r ->WC X n wm rd a ⟨fr,ds,h,none⟩ Q) (h2:t=false ->y=r ->WC X n wm rd b ⟨fr,ds,h,none⟩ Q) (hc:Ym fr c=some (.bool t):=by(first | exact evC rfl | (apply Yh;exact E0;(first | exact ia rfl | assumption)) | (apply WV;exact E0;(first | exact ia rfl | assumption);assumption) | fail)):WC X n wm rd (.cond c a b) ⟨fr,ds,h,none⟩ Q:=
 WC.ZII hc (fun e=>h1 e (Zdr e hL)) (fun e=>h2 e (Zds e hL))
theorem rt {fn:Func} {fr:Fr} {h h0:H} {T:Nat ->Prop} {G G':List (Ast wm)} {wr:Option Nat} {t:Tmp} {β:Type} {x r:β} {g:β ->Value} (hL:some x=some r) (hT:T=QA G) (hS:Sp wm T h0 G' h) (hr:fn.results.toList= [.tmp t]:=by exact rfl) (hv:Ym fr (.tmp t)=some (g x):=by(first | exact evC rfl | (apply Yh;exact E0;(first | exact ia rfl | assumption)) | (apply WV;exact E0;(first | exact ia rfl | assumption);assumption) | fail)):
 YJ X fn (fun e h'=>∃ v,e= .ret v∧CP (fun v Gb=>v=g r∧Gb= []) G h0 v h') .ret ⟨fr,[],h,wr⟩:=by
 cases hL;exact YJ.UC hr (Z0 hv ZX) ⟨_,⟨rfl,rfl⟩,hT ▸ hS.only .n⟩
theorem bg {f:FuncId} {fn:Func} {c:Code} {args:List Value} {n:Nat} {K:Value ->List (Ast wm) ->Prop} {G:List (Ast wm)} {h:H} {fr:Fr} (hnt:fn.ntmps=n) (ZV:wm <=h.size) (hO:Ye G h)
 (k:∀ T,T=QA (wm:=wm) G ->Sp wm T h G h ->WC X n wm none c ⟨fr,[],h,none⟩ (YJ X fn (fun e h'=>∃ v,e= .ret v∧CP K G h v h'))) (hf:X.fns.get f=some fn:=by kernel_rfl) (hb:fn.body=some c:=by exact rfl) (hn:args.length <=n:=by simp)
 (hfr:Qu args 0 .nil=fr:=by(simp only [Y9,Xz,Nat.reduceAdd];exact rfl)):WR X f args.toArray wm h (CP K G h):=by
 subst hfr;exact WF.begin hf hb hnt hn (k _ rfl (Sp.start ZV hO))
end
theorem lk {p:Prop} (h:p:=by(first | exact evC rfl | (apply Yh;exact E0;(first | exact ia rfl | assumption)) | (apply WV;exact E0;(first | exact ia rfl | assumption);assumption) | fail)):p:=h
theorem lks {p:Prop} (h:p:=by
 repeat (first | exact ZH | (apply Ze;(focus (first | exact evC rfl | (apply Yh;exact E0;(first | exact ia rfl | assumption)) | (apply WV;exact E0;(first | exact ia rfl | assumption);assumption) | fail);done)))
 done):p:=h
theorem YB {p:Prop} (h:p:=by
 repeat (first | with_reducible exact fh | ((with_reducible apply YK);exact rfl) | ((with_reducible apply YU);exact rfl) | ((with_reducible apply YP);exact rfl) | ((with_reducible apply ZA);exact rfl) | with_reducible assumption | refine⟨?_,?_⟩)
 done):p:=h
theorem r1 {p q:Prop} (k:q) (h:Kp q ->p:=by
 intro k
 first
 | refine WO.nil ?_
 | refine ZiC.Y4 ?_
 | refine WC.seq ?_
 | refine WC.region ?_
 | ((first | apply WO.w gN rfl | (apply WO.gv;(focus (first | (apply Zt.yes rfl rfl rfl;exact E0) | (apply Zt.no rfl rfl rfl;exact E0) | (apply Zt.ZhW rfl rfl rfl;exact E0) | (apply Zt.no2 rfl rfl rfl;exact E0) | fail);done);rfl;intro hg) | (apply WX.w2 gN;rfl;rfl) | (apply WX.gv2;(focus (first | (apply Zt.yes rfl rfl rfl;exact E0) | (apply Zt.no rfl rfl rfl;exact E0) | (apply Zt.ZhW rfl rfl rfl;exact E0) | (apply Zt.no2 rfl rfl rfl;exact E0) | fail);done);rfl;rfl;intro hg));(focus (first
   | ((with_reducible apply Zy2);(first | exact evC rfl | (apply Yh;exact E0;(first | exact ia rfl | assumption)) | (apply WV;exact E0;(first | exact ia rfl | assumption);assumption) | fail))
   | ((with_reducible apply ZMn);(focus (first | exact evC rfl | (apply Yh;exact E0;(first | exact ia rfl | assumption)) | (apply WV;exact E0;(first | exact ia rfl | assumption);assumption) | fail);done);assumption;(focus (first | exact k0 | exact k1 | exact k2 | exact k3 | exact k4 | exact k5 | exact k6 | exact k7 | (repeat (first | exact k7 | apply Pk.s)));done);rfl)
   | ((with_reducible apply ZIY);(first | exact evC rfl | (apply Yh;exact E0;(first | exact ia rfl | assumption)) | (apply WV;exact E0;(first | exact ia rfl | assumption);assumption) | fail))
   | ((with_reducible apply KS);(first | exact evC rfl | (apply Yh;exact E0;(first | exact ia rfl | assumption)) | (apply WV;exact E0;(first | exact ia rfl | assumption);assumption) | fail))
   | ((with_reducible apply JA);(focus (first | exact evC rfl | (apply Yh;exact E0;(first | exact ia rfl | assumption)) | (apply WV;exact E0;(first | exact ia rfl | assumption);assumption) | fail);done);(focus (first | exact evC rfl | (apply Yh;exact E0;(first | exact ia rfl | assumption)) | (apply WV;exact E0;(first | exact ia rfl | assumption);assumption) | fail);done);(first | with_reducible exact Zr7 | with_reducible exact Zww | with_reducible exact Zws | with_reducible exact Zwr | with_reducible exact Zr2 | with_reducible exact Zwu | with_reducible exact Zwv | with_reducible exact Zwt | with_reducible exact Zr5 | with_reducible exact Zr6 ZEa.out | with_reducible exact ZbU ZEa.out))
   | ((with_reducible apply ZIX);(focus (first | exact evC rfl | (apply Yh;exact E0;(first | exact ia rfl | assumption)) | (apply WV;exact E0;(first | exact ia rfl | assumption);assumption) | fail);done);assumption;(focus (first | exact k0 | exact k1 | exact k2 | exact k3 | exact k4 | exact k5 | exact k6 | exact k7 | (repeat (first | exact k7 | apply Pk.s)));done);rfl;(focus simp only [Nat.zero_add,Nat.reduceAdd,List.drop_succ_cons,List.drop_zero,List.take_succ_cons,List.take_zero,List.take_nil];rfl))
   | ((with_reducible apply ZIW);(first | exact evC rfl | (apply Yh;exact E0;(first | exact ia rfl | assumption)) | (apply WV;exact E0;(first | exact ia rfl | assumption);assumption) | fail))
   | ((with_reducible apply ZoY);(focus (first | exact evC rfl | (apply Yh;exact E0;(first | exact ia rfl | assumption)) | (apply WV;exact E0;(first | exact ia rfl | assumption);assumption) | fail);done);rfl)
   | ((with_reducible apply ZDU);(first | exact evC rfl | (apply Yh;exact E0;(first | exact ia rfl | assumption)) | (apply WV;exact E0;(first | exact ia rfl | assumption);assumption) | fail))
   | ((with_reducible apply ZhH);(first | exact evC rfl | (apply Yh;exact E0;(first | exact ia rfl | assumption)) | (apply WV;exact E0;(first | exact ia rfl | assumption);assumption) | fail))
   | ((with_reducible apply ZhI);(focus (first | exact evC rfl | (apply Yh;exact E0;(first | exact ia rfl | assumption)) | (apply WV;exact E0;(first | exact ia rfl | assumption);assumption) | fail);done);(focus (apply ZIr;exact E0);done);(first | exact evC rfl | (apply Yh;exact E0;(first | exact ia rfl | assumption)) | (apply WV;exact E0;(first | exact ia rfl | assumption);assumption) | fail))
   | ((with_reducible apply Zm1);(focus (first | exact evC rfl | (apply Yh;exact E0;(first | exact ia rfl | assumption)) | (apply WV;exact E0;(first | exact ia rfl | assumption);assumption) | fail);done);(focus (first | exact evC rfl | (apply Yh;exact E0;(first | exact ia rfl | assumption)) | (apply WV;exact E0;(first | exact ia rfl | assumption);assumption) | fail);done);(apply ZIr;exact E0))
   | fail)))
 | (apply WO.hu gN;(focus (first | (((with_reducible apply ZMm));(focus (first | exact evC rfl | (apply Yh;exact E0;(first | exact ia rfl | assumption)) | (apply WV;exact E0;(first | exact ia rfl | assumption);assumption) | fail);done);assumption;(focus (first | exact k0 | exact k1 | exact k2 | exact k3 | exact k4 | exact k5 | exact k6 | exact k7 | (repeat (first | exact k7 | apply Pk.s)));done);(focus (first | exact evC rfl | (apply Yh;exact E0;(first | exact ia rfl | assumption)) | (apply WV;exact E0;(first | exact ia rfl | assumption);assumption) | fail);done);(focus (first | (simp only [ZeG,ZcF,Zbm,ZeE,ZeF,ZeI,Zah,cells_func,Kw,WJ,Zbn];exact rfl) | exact rfl));exact rfl;exact rfl;exact rfl;(focus simp only [splice,List.take_succ_cons,List.take_zero,List.drop_succ_cons,List.drop_zero,List.cons_append,List.nil_append,List.append_nil,List.length_cons,List.length_nil,Nat.reduceAdd,Nat.zero_add,List.take_nil,List.drop_nil];exact rfl)) | fail)))
 | (apply WO.hn gN rfl;(focus (first | (((with_reducible apply ZIZ));(focus (first | exact evC rfl | (apply Yh;exact E0;(first | exact ia rfl | assumption)) | (apply WV;exact E0;(first | exact ia rfl | assumption);assumption) | fail);done);assumption;(focus (first | (simp only [ZeG,ZcF,Zbm,ZeE,ZeF,ZeI,Zah,cells_func,Kw,WJ,Zbn];exact rfl) | exact rfl))) | (((with_reducible apply ZI0));assumption;(focus (first | (simp only [ZeG,ZcF,Zbm,ZeE,ZeF,ZeI,Zah,cells_func,Kw,WJ,Zbn];exact rfl) | exact rfl))) | fail)))
 | refine WC.skip ?_
 | refine WC.ret ?_
 | refine WC.block ?_
 | refine WC.exit ?_
 | refine ZiC.ret ?_
 | refine ZiC.exit ?_
 | refine ZeT.ret ?_
 | refine ZeT.Y4 ?_
 | refine ZeT.here ?_
 | refine Ya.exit ?_
 | refine Ya.ret ?_
 | refine WX.nil ?_
 | fail
 exact k.out):p:=h ⟨k⟩
theorem r2 {p q:Prop} (k:q) (h:Kp q ->p:=by
 intro k
 iterate 2 (refine r1 ?_)
 exact k.out):p:=h ⟨k⟩
theorem r3 {p q:Prop} (k:q) (h:Kp q ->p:=by
 intro k
 iterate 3 (refine r1 ?_)
 exact k.out):p:=h ⟨k⟩
theorem r4 {p q:Prop} (k:q) (h:Kp q ->p:=by
 intro k
 iterate 4 (refine r1 ?_)
 exact k.out):p:=h ⟨k⟩
theorem r6 {p q:Prop} (k:q) (h:Kp q ->p:=by
 intro k
 iterate 6 (refine r1 ?_)
 exact k.out):p:=h ⟨k⟩
theorem r8 {p q:Prop} (k:q) (h:Kp q ->p:=by
 intro k
 iterate 8 (refine r1 ?_)
 exact k.out):p:=h ⟨k⟩
theorem XA {p q:Prop} (k:q) (h:Kp q ->p:=by
 intro k
 iterate 12 (refine r1 ?_)
 exact k.out):p:=h ⟨k⟩
theorem r16 {p q:Prop} (k:q) (h:Kp q ->p:=by
 intro k
 iterate 16 (refine r1 ?_)
 exact k.out):p:=h ⟨k⟩
end Go.Yr
end
end
section
noncomputable section
namespace Go.Proofs.YtbmbbcaaimehkaaGreat
open Go.Yr Go.Lf
instance:Zbz XX.P 3:= ⟨Xr⟩
instance:Zbz XX.P 4:= ⟨Zr0⟩
instance:Zbz XX.P 22:= ⟨Zci⟩
instance:Zbz XX.P 24:= ⟨Zwn⟩
instance:Zbz XX.P 25:= ⟨Zqr⟩
instance:Zbz XX.P 26:= ⟨Zqq⟩
instance:Zbz XX.P 27:= ⟨Zwm⟩
instance:Zk7 XX.P 29:= ⟨Zm9⟩
instance:Zbz XX.P 30:= ⟨ZI9⟩
instance:Zbz XX.P 38:= ⟨ZI8⟩
instance:Zk7 XX.P 40:= ⟨ZI7⟩
instance:Zbz XX.P 41:= ⟨ZAA⟩
instance:Zk7 XX.P 63:= ⟨Zjj⟩
instance:Zbz XX.P 64:= ⟨UJ⟩
instance:Zbz XX.P 65:= ⟨ZI6⟩
instance:Zk7 XX.P 67:= ⟨ZI5⟩
instance:Zbz XX.P 90:= ⟨Zch⟩
instance:Zk7 XX.P 92:= ⟨Zji⟩
instance:Zbz XX.P 93:= ⟨ZI4⟩
instance:Zk7 XX.P 95:= ⟨Km⟩
instance:Zk7 XX.P 104:= ⟨ZhM⟩
instance:Zbz XX.P 116:= ⟨ZDZ⟩
instance:Zk7 XX.P 120:= ⟨Zk0⟩
instance:Zbz XX.P 124:= ⟨Zwo⟩
instance:SzF XX.P 3 1:= ⟨YN⟩
instance:SzF XX.P 4 1:= ⟨Zlq⟩
instance:SzF XX.P 22 1:= ⟨Jr⟩
instance:SzF XX.P 24 1:= ⟨ZAV⟩
instance:SzF XX.P 25 1:= ⟨ZAU⟩
instance:SzF XX.P 26 1:= ⟨ZAT⟩
instance:SzF XX.P 27 1:= ⟨ZnH⟩
instance:SzF XX.P 29 6:= ⟨Zcn⟩
instance:SzF XX.P 30 1:= ⟨ZAS⟩
instance:SzF XX.P 40 3:= ⟨ZAR⟩
instance:SzF XX.P 41 1:= ⟨ZnG⟩
instance:SzF XX.P 63 3:= ⟨Xt⟩
instance:SzF XX.P 64 1:= ⟨QR⟩
instance:SzF XX.P 67 5:= ⟨ZnF⟩
instance:SzF XX.P 90 1:= ⟨QO⟩
instance:SzF XX.P 92 5:= ⟨JU⟩
instance:SzF XX.P 95 12:= ⟨YF⟩
instance:SzF XX.P 104 4:= ⟨XH⟩
instance:SzF XX.P 116 1:= ⟨Zxo⟩
instance:SzF XX.P 120 3:= ⟨Uj⟩
instance:Qb XX.P 29 0 0:= ⟨ZyF⟩
instance:Qb XX.P 29 1 1:= ⟨ZyE⟩
instance:Qb XX.P 29 2 2:= ⟨ZyD⟩
instance:Qb XX.P 29 3 3:= ⟨ZyC⟩
instance:Qb XX.P 29 4 4:= ⟨Zkc⟩
instance:Qb XX.P 29 5 5:= ⟨ZyB⟩
instance:Qb XX.P 40 0 0:= ⟨ZyA⟩
instance:Qb XX.P 40 1 1:= ⟨Zyz⟩
instance:Qb XX.P 40 2 2:= ⟨Zyy⟩
instance:Qb XX.P 63 0 0:= ⟨Zyx⟩
instance:Qb XX.P 63 1 1:= ⟨Zyw⟩
instance:Qb XX.P 63 2 2:= ⟨Zyv⟩
instance:Qb XX.P 67 0 0:= ⟨Zyu⟩
instance:Qb XX.P 67 1 1:= ⟨Zyt⟩
instance:Qb XX.P 67 2 2:= ⟨Zys⟩
instance:Qb XX.P 67 3 3:= ⟨Zyr⟩
instance:Qb XX.P 67 4 4:= ⟨Zyq⟩
instance:Qb XX.P 92 0 0:= ⟨Zyp⟩
instance:Qb XX.P 92 1 1:= ⟨Zyo⟩
instance:Qb XX.P 92 2 2:= ⟨Zyn⟩
instance:Qb XX.P 92 3 3:= ⟨Zym⟩
instance:Qb XX.P 92 4 4:= ⟨Zyl⟩
instance:Qb XX.P 95 0 0:= ⟨Zyk⟩
instance:Qb XX.P 95 1 1:= ⟨Zyj⟩
instance:Qb XX.P 95 2 2:= ⟨Zyi⟩
instance:Qb XX.P 95 3 7:= ⟨Zyh⟩
instance:Qb XX.P 95 4 8:= ⟨Zp9⟩
instance:Qb XX.P 95 5 9:= ⟨Zyg⟩
instance:Qb XX.P 95 6 10:= ⟨Zp8⟩
instance:Qb XX.P 95 7 11:= ⟨Zp7⟩
instance:Qb XX.P 100 0 0:= ⟨ZgU⟩
instance:Qb XX.P 100 1 6:= ⟨ZgT⟩
instance:Qb XX.P 104 0 0:= ⟨Zvs⟩
instance:Qb XX.P 104 1 1:= ⟨Zvr⟩
instance:Qb XX.P 104 2 2:= ⟨Zvq⟩
instance:Qb XX.P 104 3 3:= ⟨Zvp⟩
instance:Qb XX.P 120 0 0:= ⟨Zvo⟩
instance:Qb XX.P 120 1 1:= ⟨Zvn⟩
instance:Qb XX.P 120 2 2:= ⟨Zvm⟩
instance:Qb XX.P 126 0 0:= ⟨Zvl⟩
instance:Qb XX.P 126 1 6:= ⟨Zvk⟩
instance:ZeR XX.P 22 3:= ⟨YG⟩
instance:ZeR XX.P 24 22:= ⟨Zao⟩
instance:ZeR XX.P 25 64:= ⟨Ur⟩
instance:ZeR XX.P 26 90:= ⟨WZ⟩
instance:ZeR XX.P 27 95:= ⟨Ja⟩
instance:ZeR XX.P 41 67:= ⟨ZsF⟩
instance:ZeR XX.P 46 40:= ⟨ZEx⟩
instance:ZeR XX.P 64 63:= ⟨Uq⟩
instance:ZeR XX.P 90 92:= ⟨Zan⟩
instance:ZeR XX.P 102 104:= ⟨Uz⟩
instance:ZeR XX.P 110 4:= ⟨Zjv⟩
instance:ZeR XX.P 124 120:= ⟨Zf4⟩
instance:ZEa XX.P 4:= ⟨Zxh⟩
instance:Zal XX.P 3 (.int .i64 0):= ⟨ZfW⟩
instance:Zal XX.P 4 (.bool false):= ⟨Zsp⟩
instance:Zal XX.P 22 (.slice none 0 0):= ⟨Znq⟩
instance:Zal XX.P 29 (.agg #[.slice none 0 0,.slice none 0 0,.slice none 0 0,.slice none 0 0,.slice none 0 0,.int .i64 0]):= ⟨Znp⟩
instance:Zal XX.P 30 (.int .i64 0):= ⟨ZAH⟩
instance:Zal XX.P 40 (.agg #[.int .i64 0,.int .i64 0,.int .i64 0]):= ⟨ZAF⟩
instance:Zal XX.P 63 (.agg #[.bool false,.int .i64 0,.int .i64 0]):= ⟨ZfV⟩
instance:Zal XX.P 64 (.slice none 0 0):= ⟨Zso⟩
instance:Zal XX.P 67 (.agg #[.int .i64 0,.int .i64 0,.int .i64 0,.int .i64 0,.int .i64 0]):= ⟨Zjl⟩
instance:Zal XX.P 90 (.slice none 0 0):= ⟨Zsn⟩
instance:Zal XX.P 92 (.agg #[.int .i64 0,.int .i64 0,.int .i64 0,.int .i64 0,.int .i64 0]):= ⟨ZfU⟩
instance:Zal XX.P 95 (.agg #[.int .i64 0,.int .i64 0,.int .i64 0,.int .i64 0,.int .i64 0,.int .i64 0,.int .i64 0,.slice none 0 0,.slice none 0 0,.int .i64 0,.int .i64 0,.int .i64 0]):= ⟨ZdJ⟩
instance:Zal XX.P 100 (.agg #[.slice none 0 0,.slice none 0 0,.slice none 0 0,.slice none 0 0,.slice none 0 0,.int .i64 0,.slice none 0 0]):= ⟨Zpk⟩
instance:Zal XX.P 104 (.agg #[.int .i64 0,.int .i64 0,.int .i64 0,.bool false]):= ⟨Zjn⟩
instance:Zal XX.P 116 (.nilFunc):= ⟨ZwY⟩
instance:Zal XX.P 120 (.agg #[.int .i64 0,.bool false,.int .i64 0]):= ⟨Zjm⟩
instance:Zal XX.P 126 (.agg #[.slice none 0 0,.slice none 0 0,.slice none 0 0,.slice none 0 0,.slice none 0 0,.int .i64 0,.slice none 0 0]):= ⟨Zpj⟩
instance:Zal XX.P 142 (.nilFunc):= ⟨Zfv⟩
end Go.Proofs.YtbmbbcaaimehkaaGreat
end
end
section
namespace Go.Proofs.YtbmbbcaaimehkaaGreat
open Go.Lf
def Zer (p0:Zb):Int ->(Int ->Option Bool) ->Option Bool:=fun v46 Zgo=>
 (bif decide (v46 < (p0.wire.length:Int)) then(ZN p0.wire v46).bind fun x49=>(bif((decide ((x49.places.length:Int) > 20)) || (decide ((x49.ZW.length:Int) > 20))) then some false else Zgo (Xl (v46 + 1))) else some true)
def Zes (F:Nat) (p0:Zb):Int ->(Int ->Option Bool) ->Option Bool:=fun v34 Zgq=>
 (bif decide (v34 < (p0.held.length:Int)) then(ZN p0.held v34).bind fun KX=>(bif decide ((KX.length:Int) > 100) then some false else Zgq (Xl (v34 + 1))) else loop F (Zer p0) 0)
def Zet (F:Nat) (p0:Zb):Int ->(Int ->Option Bool) ->Option Bool:=fun v21 ZtE=>
 (bif decide (v21 < (p0.entries.length:Int)) then(ZN p0.entries v21).bind fun x24=>(bif decide ((x24.length:Int) > 20) then some false else ZtE (Xl (v21 + 1))) else loop F (Zes F p0) 0)
def Zhq (F:Nat) (p0:Zb):Int ->(Int ->Option Bool) ->Option Bool:=fun v8 Jt=>
 (bif decide (v8 < (p0.boxes.length:Int)) then(ZN p0.boxes v8).bind fun YZ=>(bif decide ((YZ.length:Int) > 100) then some false else Jt (Xl (v8 + 1))) else loop F (Zet F p0) 0)
def ZvQ (F:Nat) (p0:Zb):Option Bool:=
 (bif(((((decide ((p0.Zv.length:Int) > 20)) || (decide ((p0.boxes.length:Int) > 20))) || (decide ((p0.entries.length:Int) > 20))) || (decide ((p0.held.length:Int) > 20))) || (decide ((p0.wire.length:Int) > 200))) then some false else loop F (Zhq F p0) 0)
end Go.Proofs.YtbmbbcaaimehkaaGreat
end
section
set_option maxRecDepth 20000
noncomputable section
namespace Go.Proofs.YtbmbbcaaimehkaaGreat
open Go.Yr Go.Lf
theorem ZDt {F wm:Nat} {h:H} {p0:Zb} {Zi:Option Addr} {Zh:Nat} {Zr:Option Addr} {Zp:Nat} {Zn:Option Addr} {Zm:Nat} {Zq:Option Addr} {Zo:Nat} {Zl:Option Addr} {Zk:Nat} {r:Bool} (ZV:wm <=h.size) (Zz:Sl (Zy .i64) wm h Zi Zh p0.Zv) (ZL:Sl (Z6 (Zy .i64)) wm h Zr Zp p0.boxes) (ZK:Sl (Z6 Zd) wm h Zn Zm p0.entries) (ZM:Sl (Z6 Zf) wm h Zq Zo p0.held) (ZJ:Sl Zg wm h Zl Zk p0.wire) (hL:ZvQ F p0=some r):
 WR XX 19 #[.agg [.slice Zi p0.Zv.length Zh,.slice Zr p0.boxes.length Zp,.slice Zn p0.entries.length Zm,.slice Zq p0.held.length Zo,.slice Zl p0.wire.length Zk,.int .i64 p0.said].toArray] wm h (CP (fun(v:Value) (Gb:List (Ast wm))=>v= .bool r∧Gb= []) [] h):=by
 refine bg Tryz.ntmps19 ZV Ye.nil ?_;intro T hT hS;unfold ZvQ at hL;refine r3 ?_;rintro _ h2 ⟨b1,eb1,rfl,hS⟩;refine r16 ?_;refine r16 ?_;refine r4 ?_;refine cn hL ?_ ?_
 ·intro hc hL;refine r6 ?_;refine r1 ?_;exact rt hL hT hS
 ·intro hc hL;refine XA ?_;refine WC.loop (WL.lift hL (fun(v8:Int) (s:Fs)=>∃ (Uf:Fr) (h3:H),s= ⟨Uf,[],h3,none⟩∧Sp wm T h [bx wm b1 [.slice Zi p0.Zv.length Zh,.slice Zr p0.boxes.length Zp,.slice Zn p0.entries.length Zm,.slice Zq p0.held.length Zo,.slice Zl p0.wire.length Zk,.int .i64 p0.said]] h3∧Uf.at 1= .pointer (some ⟨b1,0,none⟩)∧Uf.at 40= .slice Zr p0.boxes.length Zp∧Uf.at 41= .int .i64 (p0.boxes.length:Int)∧Uf.at 42= .int .i64 v8) ⟨_,_,rfl,hS.only (.c k0 .n),YB⟩ ?_);clear hL hS;rintro Jt v8 s Zj8 hL ⟨Uf,h3,rfl,hS,e5,e6,e7,e9⟩;dsimp only [Zhq] at hL;refine r6 ?_;refine cn hL ?_ ?_
  ·intro hc hL;refine r6 ?_;obtain⟨YZ,Zfn,hL⟩:=bind_some hL;obtain⟨b12,o13,⟨a14,c15⟩,ZG5,ZIi,ZHM,ZHl⟩:=Sl.at_ ZL Zfn;refine WO.w gN rfl (ZC Zao Jr lk lk rfl ZG5 Zfn) ?_;have ZNi:Sl (Zy .i64) wm h a14 c15 YZ:=ZHl;refine WO.w gN rfl (ZU Zci (Yh fh rfl) (At.fz hS.fz ZHM ZIi) (j:=0) rfl (v:= .slice a14 YZ.length c15) rfl) ?_;refine r8 ?_;refine r2 ?_;refine cn hL ?_ ?_
   ·intro hc hL;refine r8 ?_;refine r3 ?_;exact rt hL hT hS
   ·intro hc hL;refine r6 ?_;refine r1 ?_;exact Ya.Y4 (Zj8 _ _ hL ⟨_,_,rfl,hS.only (.c k0 .n),YB⟩)
  ·intro hc hL;refine XA ?_;refine r3 ?_;refine WC.loop (WL.lift hL (fun(v21:Int) (s:Fs)=>∃ (Zdh:Fr) (h16:H),s= ⟨Zdh,[],h16,none⟩∧Sp wm T h [bx wm b1 [.slice Zi p0.Zv.length Zh,.slice Zr p0.boxes.length Zp,.slice Zn p0.entries.length Zm,.slice Zq p0.held.length Zo,.slice Zl p0.wire.length Zk,.int .i64 p0.said]] h16∧Zdh.at 1= .pointer (some ⟨b1,0,none⟩)∧Zdh.at 51= .slice Zn p0.entries.length Zm∧Zdh.at 52= .int .i64 (p0.entries.length:Int)∧Zdh.at 53= .int .i64 v21) ⟨_,_,rfl,hS.only (.c k0 .n),YB⟩ ?_);clear hL hS;rintro ZtE v21 s Zx8 hL ⟨Zdh,h16,rfl,hS,e18,e19,e20,e22⟩;dsimp only [Zet] at hL;refine r6 ?_;refine cn hL ?_ ?_
   ·intro hc hL;refine r6 ?_;obtain⟨x24,hx24,hL⟩:=bind_some hL;obtain⟨b25,o26,⟨a27,c28⟩,ZG2,ZIf,ZHI,ZHi⟩:=Sl.at_ ZK hx24;refine WO.w gN rfl (ZC Ur QR lk lk rfl ZG2 hx24) ?_;have ZFN:Sl Zd wm h a27 c28 x24:=ZHi;refine WO.w gN rfl (ZU UJ (Yh fh rfl) (At.fz hS.fz ZHI ZIf) (j:=0) rfl (v:= .slice a27 x24.length c28) rfl) ?_;refine r8 ?_;refine r2 ?_;refine cn hL ?_ ?_
    ·intro hc hL;refine r8 ?_;refine r3 ?_;exact rt hL hT hS
    ·intro hc hL;refine r6 ?_;refine r1 ?_;exact Ya.Y4 (Zx8 _ _ hL ⟨_,_,rfl,hS.only (.c k0 .n),YB⟩)
   ·intro hc hL;refine XA ?_;refine r3 ?_;refine WC.loop (WL.lift hL (fun(v34:Int) (s:Fs)=>∃ (ZbZ:Fr) (h29:H),s= ⟨ZbZ,[],h29,none⟩∧Sp wm T h [bx wm b1 [.slice Zi p0.Zv.length Zh,.slice Zr p0.boxes.length Zp,.slice Zn p0.entries.length Zm,.slice Zq p0.held.length Zo,.slice Zl p0.wire.length Zk,.int .i64 p0.said]] h29∧ZbZ.at 1= .pointer (some ⟨b1,0,none⟩)∧ZbZ.at 62= .slice Zq p0.held.length Zo∧ZbZ.at 63= .int .i64 (p0.held.length:Int)∧ZbZ.at 64= .int .i64 v34) ⟨_,_,rfl,hS.only (.c k0 .n),YB⟩ ?_);clear hL hS;rintro Zgq v34 s Zj2 hL ⟨ZbZ,h29,rfl,hS,e31,e32,e33,e35⟩;dsimp only [Zes] at hL;refine r6 ?_;refine cn hL ?_ ?_
    ·intro hc hL;refine r6 ?_;obtain⟨KX,Zd2,hL⟩:=bind_some hL;obtain⟨b38,o39,⟨a40,c41⟩,ZgL,ZgO,ZgN,Zi2⟩:=Sl.at_ ZM Zd2;refine WO.w gN rfl (ZC WZ QO lk lk rfl ZgL Zd2) ?_;have Zmj:Sl Zf wm h a40 c41 KX:=Zi2;refine WO.w gN rfl (ZU Zch (Yh fh rfl) (At.fz hS.fz ZgN ZgO) (j:=0) rfl (v:= .slice a40 KX.length c41) rfl) ?_;refine r8 ?_;refine r2 ?_;refine cn hL ?_ ?_
     ·intro hc hL;refine r8 ?_;refine r3 ?_;exact rt hL hT hS
     ·intro hc hL;refine r6 ?_;refine r1 ?_;exact Ya.Y4 (Zj2 _ _ hL ⟨_,_,rfl,hS.only (.c k0 .n),YB⟩)
    ·intro hc hL;refine XA ?_;refine r3 ?_;refine WC.loop (WL.lift hL (fun(v46:Int) (s:Fs)=>∃ (Zvi:Fr) (h42:H),s= ⟨Zvi,[],h42,none⟩∧Sp wm T h [] h42∧Zvi.at 73= .slice Zl p0.wire.length Zk∧Zvi.at 74= .int .i64 (p0.wire.length:Int)∧Zvi.at 75= .int .i64 v46) ⟨_,_,rfl,hS.only .n,YB⟩ ?_);clear hL hS;rintro Zgo v46 s Zj0 hL ⟨Zvi,h42,rfl,hS,e44,e45,e47⟩;dsimp only [Zer] at hL;refine r6 ?_;refine cn hL ?_ ?_
     ·intro hc hL;refine r6 ?_;obtain⟨x49,Zl8,hL⟩:=bind_some hL;obtain⟨b50,o51,⟨⟨a52,c53⟩,⟨a54,c55⟩⟩,Zmq,Zmw,ZuS,Zp4⟩:=Sl.at_ ZJ Zl8;refine WO.w gN rfl (ZC Ja YF lk lk rfl Zmq Zl8) ?_;have ZNf:Sl (Zy .i64) wm h a52 c53 x49.places:=Zp4.1;have ZNe:Sl (Zy .i64) wm h a54 c55 x49.ZW:=Zp4.2;refine WO.w gN rfl (YX Km YF (Yh fh rfl) (At.fz hS.fz ZuS Zmw) (j:=0) rfl rfl (ws:= [.int .i64 x49.kind,.int .i64 x49.ZR,.int .i64 x49.Zu.msg,.int .i64 x49.Zu.place,.int .i64 x49.Zu.from_,.int .i64 x49.Zu.age,.int .i64 x49.Zu.hops,.slice a52 x49.places.length c53,.slice a54 x49.ZW.length c55,.int .i64 x49.place,.int .i64 x49.at_,.int .i64 x49.age]) rfl) ?_;refine r1 ?_;rintro _ h57 ⟨b56,ZQU,rfl,hS⟩;refine r1 ?_;rintro h58 hS;refine r16 ?_;refine cn hL ?_ ?_
      ·intro hc hL;refine r8 ?_;refine r3 ?_;exact rt hL hT hS
      ·intro hc hL;refine r6 ?_;refine r1 ?_;exact Ya.Y4 (Zj0 _ _ hL ⟨_,_,rfl,hS.only .n,YB⟩)
     ·intro hc hL;refine r8 ?_;refine r3 ?_;exact rt hL hT hS
end Go.Proofs.YtbmbbcaaimehkaaGreat
end
end
section
namespace Go.Proofs.YtbmbbcaaimehkaaGreat
open Go.Lf
def Zhk (p0:(List Int)):Int ->(Int ->Option Bool) ->Option Bool:=fun v6 Zb7=>
 (bif decide (v6 < (p0.length:Int)) then(ZN p0 v6).bind fun x9=>(bif decide (x9 < 0) then some false else Zb7 (Xl (v6 + 1))) else some (decide ((p0.length:Int) <=80)))
def ZrB (F:Nat) (p0:(List Int)):Option Bool:=
 loop F (Zhk p0) 0
def Zkv (p0:(List Int)) (p1:(List Int)) (v12:(List (Int×Bool))):Int ->(Int ->Option Bool) ->Option Bool:=fun v25 ZtD=>
 (bif decide (v25 < (p1.length:Int)) then(ZN p1 v25).bind fun x28=>(ZA5 v12 x28 false).bind fun x31=>(bif(!x31) then some false else ZtD (Xl (v25 + 1))) else some (((p0.length:Int)== (p1.length:Int)) && ((v12.length:Int)== (p0.length:Int))))
def Zkw (F:Nat) (p0:(List Int)) (p1:(List Int)):Int×(List (Int×Bool)) ->(Int×(List (Int×Bool)) ->Option Bool) ->Option Bool:=fun(v10,v12) X8=>
 (bif decide (v10 < (p0.length:Int)) then(ZN p0 v10).bind fun x14=>X8 (Xl (v10 + 1),UA v12 x14 true) else loop F (Zkv p0 p1 v12) 0)
def ZrA (F:Nat) (p0:(List Int)) (p1:(List Int)):Option Bool:=
 loop F (Zkw F p0 p1) (0,[])
end Go.Proofs.YtbmbbcaaimehkaaGreat
end
section
set_option maxRecDepth 20000
noncomputable section
namespace Go.Proofs.YtbmbbcaaimehkaaGreat
open Go.Yr Go.Lf
theorem ZDo {F wm:Nat} {h:H} {p0:(List Int)} {Zi:Option Addr} {Zh:Nat} {r:Bool} (ZV:wm <=h.size) (Zz:Sl (Zy .i64) wm h Zi Zh p0) (hL:ZrB F p0=some r):
 WR XX 41 #[.slice Zi p0.length Zh] wm h (CP (fun(v:Value) (Gb:List (Ast wm))=>v= .bool r∧Gb= []) [] h):=by
 refine bg Tryz.ntmps41 ZV Ye.nil ?_;intro T hT hS;unfold ZrB at hL;refine XA ?_;refine r2 ?_;refine WC.loop (WL.lift hL (fun(v6:Int) (s:Fs)=>∃ (Jk:Fr) (h1:H),s= ⟨Jk,[],h1,none⟩∧Sp wm T h [] h1∧Jk.at 0= .slice Zi p0.length Zh∧Jk.at 5= .slice Zi p0.length Zh∧Jk.at 6= .int .i64 (p0.length:Int)∧Jk.at 7= .int .i64 v6) ⟨_,_,rfl,hS.only .n,YB⟩ ?_);clear hL hS;rintro Zb7 v6 s ZgH hL ⟨Jk,h1,rfl,hS,e3,e4,e5,e7⟩;dsimp only [Zhk] at hL;refine r6 ?_;refine cn hL ?_ ?_
 ·intro hc hL;refine r6 ?_;obtain⟨x9,hx9,hL⟩:=bind_some hL;obtain⟨b10,o11,_,ZgM,ZgP,Zmv,Zp6⟩:=Sl.at_ Zz hx9;refine WO.w gN rfl (ZC YG YN lk lk rfl ZgM hx9) ?_;refine WO.w gN rfl (ZU Xr (Yh fh rfl) (At.fz hS.fz Zmv ZgP) (j:=0) rfl (v:= .int .i64 x9) rfl) ?_;refine r8 ?_;refine r1 ?_;refine cn hL ?_ ?_
  ·intro hc hL;refine r8 ?_;refine r3 ?_;exact rt hL hT hS
  ·intro hc hL;refine r6 ?_;refine r1 ?_;exact Ya.Y4 (ZgH _ _ hL ⟨_,_,rfl,hS.only .n,YB⟩)
 ·intro hc hL;refine XA ?_;refine r2 ?_;exact rt hL hT hS
theorem ZDm {F wm:Nat} {h:H} {p0 p1:(List Int)} {Zi:Option Addr} {Zh:Nat} {Xd:Option Addr} {Xc:Nat} {r:Bool} (ZV:wm <=h.size) (Zz:Sl (Zy .i64) wm h Zi Zh p0) (QW:Sl (Zy .i64) wm h Xd Xc p1) (hL:ZrA F p0 p1=some r):
 WR XX 43 #[.slice Zi p0.length Zh,.slice Xd p1.length Xc] wm h (CP (fun(v:Value) (Gb:List (Ast wm))=>v= .bool r∧Gb= []) [] h):=by
 refine bg Tryz.ntmps43 ZV Ye.nil ?_;intro T hT hS;unfold ZrA at hL;refine r6 ?_;refine r1 ?_;refine WO.hn gN rfl (Zzw (Value.int .i64) Value.bool hS) ?_;rintro _ h1 ⟨b2,eb2,rfl,hS⟩;refine XA ?_;refine WC.loop (WL.lift hL (fun(p:Int×(List (Int×Bool))) (s:Fs)=>match p with | (v10,v12)=>∃ (Uf:Fr) (h3:H),s= ⟨Uf,[],h3,none⟩∧Sp wm T h [mp wm (Value.int .i64) Value.bool (some b2) v12] h3∧Uf.at 0= .slice Zi p0.length Zh∧Uf.at 1= .slice Xd p1.length Xc∧Uf.at 5= .map (some b2)∧Uf.at 11= .slice Zi p0.length Zh∧Uf.at 12= .int .i64 (p0.length:Int)∧Uf.at 13= .int .i64 v10) ⟨_,_,rfl,hS.only (.c k0 .n),YB⟩ ?_);clear hL hS;rintro X8 ⟨v10,v12⟩ s JY hL ⟨Uf,h3,rfl,hS,e5,e6,e7,e8,e9,e11⟩;dsimp only [Zkw] at hL;refine r6 ?_;refine cn hL ?_ ?_
 ·intro hc hL;refine r6 ?_;obtain⟨x14,Zda,hL⟩:=bind_some hL;obtain⟨b15,o16,_,Zdb,Zdd,Zdc,Ze4⟩:=Sl.at_ Zz Zda;refine WO.w gN rfl (ZC YG YN lk lk rfl Zdb Zda) ?_;refine WO.w gN rfl (ZU Xr (Yh fh rfl) (At.fz hS.fz Zdc Zdd) (j:=0) rfl (v:= .int .i64 x14) rfl) ?_;refine r6 ?_;refine WO.hu gN (Zzv (kv:= (Value.int .i64)) (vv:=Value.bool) (k:=x14) (v:=true) hS k0 ZE5 ZsE (Yh (ZA rfl fh) rfl) (Yh fh rfl) (evC rfl)) ?_;rintro h17 hS;refine r6 ?_;refine r1 ?_;exact Ya.Y4 (JY _ _ hL ⟨_,_,rfl,hS.only (.c k0 .n),YB⟩)
 ·intro hc hL;refine XA ?_;refine r2 ?_;refine WC.loop (WL.lift hL (fun(v25:Int) (s:Fs)=>∃ (ZmA:Fr) (h18:H),s= ⟨ZmA,[],h18,none⟩∧Sp wm T h [mp wm (Value.int .i64) Value.bool (some b2) v12] h18∧ZmA.at 0= .slice Zi p0.length Zh∧ZmA.at 1= .slice Xd p1.length Xc∧ZmA.at 5= .map (some b2)∧ZmA.at 20= .slice Xd p1.length Xc∧ZmA.at 21= .int .i64 (p1.length:Int)∧ZmA.at 22= .int .i64 v25) ⟨_,_,rfl,hS.only (.c k0 .n),YB⟩ ?_);clear hL hS;rintro ZtD v25 s Zx6 hL ⟨ZmA,h18,rfl,hS,e20,e21,e22,e23,e24,e26⟩;dsimp only [Zkv] at hL;refine r6 ?_;refine cn hL ?_ ?_
  ·intro hc hL;refine r6 ?_;obtain⟨x28,hx28,hL⟩:=bind_some hL;obtain⟨b29,o30,_,ZGZ,ZIc,ZHF,ZNK⟩:=Sl.at_ QW hx28;refine WO.w gN rfl (ZC YG YN lk lk rfl ZGZ hx28) ?_;refine WO.w gN rfl (ZU Xr (Yh fh rfl) (At.fz hS.fz ZHF ZIc) (j:=0) rfl (v:= .int .i64 x28) rfl) ?_;refine r6 ?_;refine r1 ?_;obtain⟨x31,hx31,hL⟩:=bind_some hL;refine WO.w gN rfl (ZfN (kv:= (Value.int .i64)) (vv:=Value.bool) (k:=x28) (z:=false) ZE5 ZsE Zsp (Yh (ZA rfl fh) rfl) (Yh fh rfl) (hS.get k0).at_ hx31 (w:= .bool x31) rfl) ?_;refine r3 ?_;refine cn hL ?_ ?_
   ·intro hc hL;refine r8 ?_;refine r3 ?_;exact rt hL hT hS
   ·intro hc hL;refine r6 ?_;refine r1 ?_;exact Ya.Y4 (Zx6 _ _ hL ⟨_,_,rfl,hS.only (.c k0 .n),YB⟩)
  ·intro hc hL;refine XA ?_;refine r2 ?_;refine WO.gv (Zt.yes rfl rfl rfl (ZA rfl fh)) rfl (fun hg=>(Zy3 ZsE (YL fh rfl hg) (hS.get k0).at_)) ?_;refine r8 ?_;exact rt hL hT hS
theorem ZDn {F:Nat} {h:H} {p0 p1:(List Int)} {Zi:Option Addr} {Zh:Nat} {Xd:Option Addr} {Xc:Nat} {r:Bool} (Zz:Sl (Zy .i64) h.size h Zi Zh p0) (QW:Sl (Zy .i64) h.size h Xd Xc p1) (hL:ZrA F p0 p1=some r):Pure XX 43 #[.slice Zi p0.length Zh,.slice Xd p1.length Xc] h (.bool r):=
 WR.XY rfl (ZDm (Nat.le_refl _) Zz QW hL)
end Go.Proofs.YtbmbbcaaimehkaaGreat
end
end
section
namespace Go.Proofs.YtbmbbcaaimehkaaGreat
open Go.Lf
def Zhg (v16:Int) (Ue:(Int×Int×Int×Int×Int×Bool ->Option (Xj×Bool))):Int×Int×Int×Int×Bool ->Option (Xj×Bool):=fun(v29,v33,v34,v35,v36)=>
 Ue (v29,Xl (v16 + 1),v33,v34,v35,v36)
def Zhf (v94:Int) (ZbJ:(Int×Int×Int×Int×Int×Bool ->Option (Xj×Bool))):Int×Int×Int×Int×Bool ->Option (Xj×Bool):=fun(Zxg,Zxf,v117,Zfi,Zxe)=>
 ZbJ (Zxg,Xl (v94 + 1),Zxf,v117,Zfi,Zxe)
def Zks (p1:Int) (v63:Int) (ZjL:(Int×Int×Int×Int×Int×Bool ->Option (Xj×Bool))) (JN:Zc):Int×Int×Int×Int×Int×Bool ->(Int×Int×Int×Int×Int×Bool ->Option (Xj×Bool)) ->Option (Xj×Bool):=fun(v85,v94,v96,v97,v98,v99) ZbJ=>
 (bif decide (v94 < (JN.places.length:Int)) then(ZN JN.places v94).bind fun ZAK=>(bif((ZAK==p1) && (decide (v94 < (JN.ZW.length:Int)))) then(ZN JN.ZW v94).bind fun ZhX=>(Zhf v94 ZbJ) (Xl (v85 + 1),JN.ZR,ZhX,v63,false) else(Zhf v94 ZbJ) (v85,v96,v97,v98,v99)) else ZjL (v85,Xl (v63 + 1),v96,v97,v98,v99))
def Zhh (F:Nat) (p0:Zb) (p1:Int):Int×Int×Int×Int×Int×Bool ->(Int×Int×Int×Int×Int×Bool ->Option (Xj×Bool)) ->Option (Xj×Bool):=fun(v59,v63,v65,v66,v67,v68) ZjL=>
 (bif decide (v63 < (p0.wire.length:Int)) then(ZN p0.wire v63).bind fun JN=>loop F (Zks p1 v63 ZjL JN) (v59,0,v65,v66,v67,v68) else some ((Xj.mk v65 v66 v67 v68),(v59==1)))
def Zkt (F:Nat) (p0:Zb) (p1:Int):Int×Int×Int×Int×Int×Bool ->(Int×Int×Int×Int×Int×Bool ->Option (Xj×Bool)) ->Option (Xj×Bool):=fun(v13,v16,v18,v19,v20,v21) Ue=>
 (bif decide (v16 < (p0.entries.length:Int)) then(ZN p0.entries v16).bind fun KX=>(ZN KX p1).bind fun x42=>(bif x42.here then(ZN p0.entries v16).bind fun Jc=>(ZN Jc p1).bind fun x50=>(Zhg v16 Ue) (Xl (v13 + 1),v16,x50.age,(-1),true) else(Zhg v16 Ue) (v13,v18,v19,v20,v21)) else loop F (Zhh F p0 p1) (v13,0,v18,v19,v20,v21))
def ZoF (F:Nat) (p0:Zb) (p1:Int):Option (Xj×Bool):=
 loop F (Zkt F p0 p1) (0,0,0,0,0,false)
def Zkr (p0:Zb) (p1:Int) (p2:Xj) (p3:Int) (p4:Int):Option Bool:=
 (bif((((decide (p3 < 0)) || (decide (p3 >= (p0.entries.length:Int)))) || (decide (p4 < 0))) || (decide (p4 > p2.age))) then some false else(bif(p4==p2.age) then some (p2.at_==p3) else(ZN p0.entries p3).bind fun x5=>(ZN x5 p1).bind fun x10=>some (decide (x10.age > p4))))
def ZmF (p0:Zb) (p1:(List Xj)) (p2:Zj) (p3:Int) (p4:Bool):Option Bool:=
 (bif((((((((decide (p2.place < 0)) || (decide (p2.place >= (p0.Zv.length:Int)))) || (decide (p2.from_ < 0))) || (decide (p2.from_ >= (p0.entries.length:Int)))) || (decide (p2.age < 0))) || (decide (p2.age > 30))) || (decide (p2.hops < 1))) || (decide (p2.hops > (Xl (p2.age + 1))))) then some false else(ZN p1 p2.place).bind fun x5=>(bif p4 then some (((!x5.is) && (x5.at_==p3)) && (x5.age==p2.age)) else(Zkr p0 p2.place x5 p3 p2.age).bind fun YZ=>some YZ))
end Go.Proofs.YtbmbbcaaimehkaaGreat
end
section
set_option maxRecDepth 20000
noncomputable section
namespace Go.Proofs.YtbmbbcaaimehkaaGreat
open Go.Yr Go.Lf
theorem ZvH {F wm:Nat} {h:H} {p0:Zb} {p1:Int} {Zi:Option Addr} {Zh:Nat} {Zr:Option Addr} {Zp:Nat} {Zn:Option Addr} {Zm:Nat} {Zq:Option Addr} {Zo:Nat} {Zl:Option Addr} {Zk:Nat} {r:(Xj×Bool)} (ZV:wm <=h.size) (Zz:Sl (Zy .i64) wm h Zi Zh p0.Zv) (ZL:Sl (Z6 (Zy .i64)) wm h Zr Zp p0.boxes) (ZK:Sl (Z6 Zd) wm h Zn Zm p0.entries) (ZM:Sl (Z6 Zf) wm h Zq Zo p0.held) (ZJ:Sl Zg wm h Zl Zk p0.wire) (hL:ZoF F p0 p1=some r):
 WR XX 52 #[.agg [.slice Zi p0.Zv.length Zh,.slice Zr p0.boxes.length Zp,.slice Zn p0.entries.length Zm,.slice Zq p0.held.length Zo,.slice Zl p0.wire.length Zk,.int .i64 p0.said].toArray,.int .i64 p1] wm h (CP (fun(v:Value) (Gb:List (Ast wm))=>v= .tuple [.agg [.int .i64 r.1.at_,.int .i64 r.1.age,.int .i64 r.1.letter,.bool r.1.is].toArray,.bool r.2].toArray∧Gb= []) [] h):=by
 refine bg Tryz.ntmps52 ZV Ye.nil ?_;intro T hT hS;unfold ZoF at hL;refine r3 ?_;rintro _ h2 ⟨b1,eb1,rfl,hS⟩;refine r1 ?_;rintro _ h4 ⟨b3,eb3,rfl,hS⟩;refine r6 ?_;rintro _ h6 ⟨b5,eb5,rfl,hS⟩;refine r16 ?_;refine r1 ?_;refine WC.loop (WL.lift hL (fun(p:Int×Int×Int×Int×Int×Bool) (s:Fs)=>match p with | (v13,v16,v18,v19,v20,v21)=>∃ (fr8:Fr) (h7:H),s= ⟨fr8,[],h7,none⟩∧Sp wm T h [bx wm b1 [.slice Zi p0.Zv.length Zh,.slice Zr p0.boxes.length Zp,.slice Zn p0.entries.length Zm,.slice Zq p0.held.length Zo,.slice Zl p0.wire.length Zk,.int .i64 p0.said],bx wm b3 [.int .i64 0,.int .i64 0,.int .i64 0,.bool false],bx wm b5 [.int .i64 v18,.int .i64 v19,.int .i64 v20,.bool v21]] h7∧fr8.at 1= .int .i64 p1∧fr8.at 2= .pointer (some ⟨b1,0,none⟩)∧fr8.at 4= .pointer (some ⟨b3,0,none⟩)∧fr8.at 6= .pointer (some ⟨b5,0,none⟩)∧fr8.at 7= .int .i64 v13∧fr8.at 15= .int .i64 (p0.entries.length:Int)∧fr8.at 16= .int .i64 v16) ⟨_,_,rfl,hS.only (.c k2 (.c k1 (.c k0 .n))),YB⟩ ?_);clear hL hS;rintro Ue ⟨v13,v16,v18,v19,v20,v21⟩ s Zj4 hL ⟨fr8,h7,rfl,hS,e9,e10,e11,e12,e14,e15,e17⟩;dsimp only [Zkt] at hL;refine r6 ?_;refine cn hL ?_ ?_
 ·intro hc hL;refine r2 ?_;refine WC.Zco (r:=r) (fun(p:Int×Int×Int×Int×Bool) (s:Fs)=>match p with | (v29,v33,v34,v35,v36)=>∃ (J8:Fr) (h23:H),s= ⟨J8,[],h23,none⟩∧Sp wm T h [bx wm b1 [.slice Zi p0.Zv.length Zh,.slice Zr p0.boxes.length Zp,.slice Zn p0.entries.length Zm,.slice Zq p0.held.length Zo,.slice Zl p0.wire.length Zk,.int .i64 p0.said],bx wm b3 [.int .i64 0,.int .i64 0,.int .i64 0,.bool false],bx wm b5 [.int .i64 v33,.int .i64 v34,.int .i64 v35,.bool v36]] h23∧J8.at 1= .int .i64 p1∧J8.at 2= .pointer (some ⟨b1,0,none⟩)∧J8.at 4= .pointer (some ⟨b3,0,none⟩)∧J8.at 6= .pointer (some ⟨b5,0,none⟩)∧J8.at 7= .int .i64 v29∧J8.at 15= .int .i64 (p0.entries.length:Int)∧J8.at 16= .int .i64 v16) (Zhg v16 Ue) ?_ ?_
  ·clear hL hS;rintro⟨v29,v33,v34,v35,v36⟩ s hL ⟨J8,h23,rfl,hS,e25,e26,e27,e28,e30,e31,e32⟩;dsimp only [Zhg] at hL;refine r4 ?_;exact Ya.Y4 (Zj4 _ _ hL ⟨_,_,rfl,hS.only (.c k0 (.c k0 (.c k0 .n))),YB⟩)
  ·skip;refine XA ?_;obtain⟨KX,Zd2,hL⟩:=bind_some hL;obtain⟨b38,o39,⟨a40,c41⟩,ZgL,ZgO,ZgN,Zi2⟩:=Sl.at_ ZK Zd2;refine WO.w gN rfl (ZC Ur QR lk lk rfl ZgL Zd2) ?_;have Zmj:Sl Zd wm h a40 c41 KX:=Zi2;refine WO.w gN rfl (ZU UJ (Yh fh rfl) (At.fz hS.fz ZgN ZgO) (j:=0) rfl (v:= .slice a40 KX.length c41) rfl) ?_;refine r1 ?_;obtain⟨x42,Zn4,hL⟩:=bind_some hL;obtain⟨b43,o44,_,ZuE,Zu6,ZuT,ZHf⟩:=Sl.at_ Zmj Zn4;refine WO.w gN rfl (ZC Uq Xt lk lk rfl ZuE Zn4) ?_;refine r1 ?_;refine WO.w gN rfl (ZU Zr0 (Yh fh rfl) (At.fz hS.fz ZuT Zu6) (j:=0) rfl (v:= .bool x42.here) rfl) ?_;refine r2 ?_;refine cn hL ?_ ?_
   ·intro hc hL;refine r6 ?_;obtain⟨Jc,Zl9,hL⟩:=bind_some hL;obtain⟨b46,o47,⟨a48,c49⟩,Zmr,Zmx,Zmu,Zmt⟩:=Sl.at_ ZK Zl9;refine WO.w gN rfl (ZC Ur QR lk lk rfl Zmr Zl9) ?_;have Zmi:Sl Zd wm h a48 c49 Jc:=Zmt;refine WO.w gN rfl (ZU UJ (Yh fh rfl) (At.fz hS.fz Zmu Zmx) (j:=0) rfl (v:= .slice a48 Jc.length c49) rfl) ?_;refine r1 ?_;obtain⟨x50,ZFn,hL⟩:=bind_some hL;obtain⟨b51,o52,_,ZGT,ZH5,ZHA,ZNE⟩:=Sl.at_ Zmi ZFn;refine WO.w gN rfl (ZC Uq Xt lk lk rfl ZGT ZFn) ?_;refine r1 ?_;refine WO.w gN rfl (ZU Xr (Yh fh rfl) (At.fz hS.fz ZHA ZH5) (j:=2) rfl (v:= .int .i64 x50.age) rfl) ?_;refine WO.w gN rfl (Qy Zv7 (ZG lk (ZG lk (ZG lk (ZG lk Yi)))) rfl (cs':= [.int .i64 v16,.int .i64 x50.age,.int .i64 (-1),.bool true]) rfl) ?_;refine r1 ?_;rintro h53 hS;refine r8 ?_;exact XO.Y4 _ hL ⟨_,_,rfl,hS.only (.c k1 (.c k1 (.c k0 .n))),YB⟩
   ·intro hc hL;refine r2 ?_;exact XO.Y4 _ hL ⟨_,_,rfl,hS.only (.c k0 (.c k0 (.c k0 .n))),YB⟩
 ·intro hc hL;refine XA ?_;refine r3 ?_;refine WC.loop (WL.lift hL (fun(p:Int×Int×Int×Int×Int×Bool) (s:Fs)=>match p with | (v59,v63,v65,v66,v67,v68)=>∃ (ZbY:Fr) (h54:H),s= ⟨ZbY,[],h54,none⟩∧Sp wm T h [bx wm b3 [.int .i64 0,.int .i64 0,.int .i64 0,.bool false],bx wm b5 [.int .i64 v65,.int .i64 v66,.int .i64 v67,.bool v68]] h54∧ZbY.at 1= .int .i64 p1∧ZbY.at 4= .pointer (some ⟨b3,0,none⟩)∧ZbY.at 6= .pointer (some ⟨b5,0,none⟩)∧ZbY.at 7= .int .i64 v59∧ZbY.at 43= .slice Zl p0.wire.length Zk∧ZbY.at 44= .int .i64 (p0.wire.length:Int)∧ZbY.at 45= .int .i64 v63) ⟨_,_,rfl,hS.only (.c k1 (.c k1 .n)),YB⟩ ?_);clear hL hS;rintro ZjL ⟨v59,v63,v65,v66,v67,v68⟩ s ZxV hL ⟨ZbY,h54,rfl,hS,e56,e57,e58,e60,e61,e62,e64⟩;dsimp only [Zhh] at hL;refine r6 ?_;refine cn hL ?_ ?_
  ·intro hc hL;refine r6 ?_;refine r1 ?_;obtain⟨JN,ZtY,hL⟩:=bind_some hL;obtain⟨b71,o72,⟨⟨a73,c74⟩,⟨a75,c76⟩⟩,ZuA,Zu1,ZAm,ZuN⟩:=Sl.at_ ZJ ZtY;refine WO.w gN rfl (ZC Ja YF lk lk rfl ZuA ZtY) ?_;have ZFF:Sl (Zy .i64) wm h a73 c74 JN.places:=ZuN.1;have ZFE:Sl (Zy .i64) wm h a75 c76 JN.ZW:=ZuN.2;refine WO.w gN rfl (YX Km YF (Yh fh rfl) (At.fz hS.fz ZAm Zu1) (j:=0) rfl rfl (ws:= [.int .i64 JN.kind,.int .i64 JN.ZR,.int .i64 JN.Zu.msg,.int .i64 JN.Zu.place,.int .i64 JN.Zu.from_,.int .i64 JN.Zu.age,.int .i64 JN.Zu.hops,.slice a73 JN.places.length c74,.slice a75 JN.ZW.length c76,.int .i64 JN.place,.int .i64 JN.at_,.int .i64 JN.age]) rfl) ?_;refine r1 ?_;rintro _ h78 ⟨b77,ZQO,rfl,hS⟩;refine r2 ?_;rintro h79 hS;refine r8 ?_;refine r3 ?_;refine WC.loop (WL.lift hL (fun(p:Int×Int×Int×Int×Int×Bool) (s:Fs)=>match p with | (v85,v94,v96,v97,v98,v99)=>∃ (WU:Fr) (h80:H),s= ⟨WU,[],h80,none⟩∧Sp wm T h [bx wm b3 [.int .i64 0,.int .i64 0,.int .i64 0,.bool false],bx wm b5 [.int .i64 v96,.int .i64 v97,.int .i64 v98,.bool v99],bx wm b77 [.int .i64 JN.kind,.int .i64 JN.ZR,.int .i64 JN.Zu.msg,.int .i64 JN.Zu.place,.int .i64 JN.Zu.from_,.int .i64 JN.Zu.age,.int .i64 JN.Zu.hops,.slice a73 JN.places.length c74,.slice a75 JN.ZW.length c76,.int .i64 JN.place,.int .i64 JN.at_,.int .i64 JN.age]] h80∧WU.at 1= .int .i64 p1∧WU.at 4= .pointer (some ⟨b3,0,none⟩)∧WU.at 6= .pointer (some ⟨b5,0,none⟩)∧WU.at 7= .int .i64 v85∧WU.at 9= .int .i64 v63∧WU.at 10= .pointer (some ⟨b77,0,none⟩)∧WU.at 43= .slice Zl p0.wire.length Zk∧WU.at 44= .int .i64 (p0.wire.length:Int)∧WU.at 45= .int .i64 v63∧WU.at 51= .slice a73 JN.places.length c74∧WU.at 52= .int .i64 (JN.places.length:Int)∧WU.at 53= .int .i64 v94) ⟨_,_,rfl,hS.only (.c k1 (.c k1 (.c k0 .n))),YB⟩ ?_);clear hL hS;rintro ZbJ ⟨v85,v94,v96,v97,v98,v99⟩ s Zup hL ⟨WU,h80,rfl,hS,e82,e83,e84,e86,e87,e88,e89,e90,e91,e92,e93,e95⟩;dsimp only [Zks] at hL;refine r6 ?_;refine cn hL ?_ ?_
   ·intro hc hL;refine r2 ?_;refine WC.Zco (r:=r) (fun(p:Int×Int×Int×Int×Bool) (s:Fs)=>match p with | (Zxg,Zxf,v117,Zfi,Zxe)=>∃ (Kj:Fr) (Zvd:H),s= ⟨Kj,[],Zvd,none⟩∧Sp wm T h [bx wm b3 [.int .i64 0,.int .i64 0,.int .i64 0,.bool false],bx wm b5 [.int .i64 Zxf,.int .i64 v117,.int .i64 Zfi,.bool Zxe],bx wm b77 [.int .i64 JN.kind,.int .i64 JN.ZR,.int .i64 JN.Zu.msg,.int .i64 JN.Zu.place,.int .i64 JN.Zu.from_,.int .i64 JN.Zu.age,.int .i64 JN.Zu.hops,.slice a73 JN.places.length c74,.slice a75 JN.ZW.length c76,.int .i64 JN.place,.int .i64 JN.at_,.int .i64 JN.age]] Zvd∧Kj.at 1= .int .i64 p1∧Kj.at 4= .pointer (some ⟨b3,0,none⟩)∧Kj.at 6= .pointer (some ⟨b5,0,none⟩)∧Kj.at 7= .int .i64 Zxg∧Kj.at 9= .int .i64 v63∧Kj.at 10= .pointer (some ⟨b77,0,none⟩)∧Kj.at 43= .slice Zl p0.wire.length Zk∧Kj.at 44= .int .i64 (p0.wire.length:Int)∧Kj.at 45= .int .i64 v63∧Kj.at 51= .slice a73 JN.places.length c74∧Kj.at 52= .int .i64 (JN.places.length:Int)∧Kj.at 53= .int .i64 v94) (Zhf v94 ZbJ) ?_ ?_
    ·clear hL hS;rintro⟨Zxg,Zxf,v117,Zfi,Zxe⟩ s hL ⟨Kj,Zvd,rfl,hS,ZIC,ZL9,ZDB,ZIB,e108,e109,ZIA,ZRM,ZL7,ZL6,ZDA,e115⟩;dsimp only [Zhf] at hL;refine r4 ?_;exact Ya.Y4 (Zup _ _ hL ⟨_,_,rfl,hS.only (.c k0 (.c k0 (.c k0 .n))),YB⟩)
    ·skip;refine r4 ?_;obtain⟨ZAK,ZzT,hL⟩:=bind_some hL;obtain⟨ZSB,ZPf,_,ZBV,ZCz,ZCd,ZLx⟩:=Sl.at_ ZFF ZzT;refine WO.w gN rfl (ZC YG YN lk lk rfl ZBV ZzT) ?_;refine WO.w gN rfl (ZU Xr (Yh fh rfl) (At.fz hS.fz ZCd ZCz) (j:=0) rfl (v:= .int .i64 ZAK) rfl) ?_;refine r16 ?_;refine r2 ?_;refine cn hL ?_ ?_
     ·intro hc hL;refine r1 ?_;refine WC.XD mixed Kq0 ?_;refine r4 ?_;refine r1 ?_;obtain⟨ZhX,Zmf,hL⟩:=bind_some hL;obtain⟨ZMs,ZKo,_,Zog,Zoj,Zoi,ZB4⟩:=Sl.at_ ZFE Zmf;refine WX.w gN rfl (ZC YG YN lk lk rfl Zog Zmf) ?_ rfl;refine WX.w gN rfl (ZU Xr (Yh fh rfl) (At.fz hS.fz Zoi Zoj) (j:=0) rfl (v:= .int .i64 ZhX) rfl) ?_ rfl;refine r1 ?_;refine WX.w gN rfl (Qy Zv7 (ZG lk (ZG lk (ZG lk (ZG lk Yi)))) rfl (cs':= [.int .i64 JN.ZR,.int .i64 ZhX,.int .i64 v63,.bool false]) rfl) ?_ rfl;refine WX.hu gN (ZbW hS k1 XH lk lk (vs:= [.int .i64 JN.ZR,.int .i64 ZhX,.int .i64 v63,.bool false]) rfl rfl rfl rfl (cs':= [.int .i64 JN.ZR,.int .i64 ZhX,.int .i64 v63,.bool false]) rfl) ?_ rfl rfl [] Kq0 Y3.e;rintro ZLN hS;refine r8 ?_;exact XO.Y4 _ hL ⟨_,_,rfl,hS.only (.c k1 (.c k0 (.c k0 .n))),YB⟩
     ·intro hc hL;refine r2 ?_;exact XO.Y4 _ hL ⟨_,_,rfl,hS.only (.c k0 (.c k0 (.c k0 .n))),YB⟩
   ·intro hc hL;refine r8 ?_;refine r2 ?_;exact Ya.Y4 (ZxV _ _ hL ⟨_,_,rfl,hS.only (.c k0 (.c k0 .n)),YB⟩)
  ·intro hc hL;refine r8 ?_;refine r3 ?_;rintro h127 hS;refine r4 ?_;have hr:=Oi0 hL;subst hr;exact YJ.gen (vs:= [.agg [.int .i64 v65,.int .i64 v66,.int .i64 v67,.bool v68].toArray,.bool (v59==1)]) rfl (U0 (YU rfl (ZA rfl e57)) (U1 ZhM XH (hS.atB k0) (j:=0) rfl rfl (ws:= [.int .i64 v65,.int .i64 v66,.int .i64 v67,.bool v68]) rfl) (Z0 lk ZX)) rfl ⟨_,⟨rfl,rfl⟩,hT ▸ hS.only .n⟩
theorem ZDj {wm:Nat} {h:H} {p0:Zb} {p1:Int} {p2:Xj} {p3 p4:Int} {Zi:Option Addr} {Zh:Nat} {Zr:Option Addr} {Zp:Nat} {Zn:Option Addr} {Zm:Nat} {Zq:Option Addr} {Zo:Nat} {Zl:Option Addr} {Zk:Nat} {r:Bool} (ZV:wm <=h.size) (Zz:Sl (Zy .i64) wm h Zi Zh p0.Zv) (ZL:Sl (Z6 (Zy .i64)) wm h Zr Zp p0.boxes) (ZK:Sl (Z6 Zd) wm h Zn Zm p0.entries) (ZM:Sl (Z6 Zf) wm h Zq Zo p0.held) (ZJ:Sl Zg wm h Zl Zk p0.wire) (hL:Zkr p0 p1 p2 p3 p4=some r):
 WR XX 53 #[.agg [.slice Zi p0.Zv.length Zh,.slice Zr p0.boxes.length Zp,.slice Zn p0.entries.length Zm,.slice Zq p0.held.length Zo,.slice Zl p0.wire.length Zk,.int .i64 p0.said].toArray,.int .i64 p1,.agg [.int .i64 p2.at_,.int .i64 p2.age,.int .i64 p2.letter,.bool p2.is].toArray,.int .i64 p3,.int .i64 p4] wm h (CP (fun(v:Value) (Gb:List (Ast wm))=>v= .bool r∧Gb= []) [] h):=by
 refine bg Tryz.ntmps53 ZV Ye.nil ?_;intro T hT hS;unfold Zkr at hL;refine r3 ?_;rintro _ h2 ⟨b1,eb1,rfl,hS⟩;refine r1 ?_;rintro _ h4 ⟨b3,eb3,rfl,hS⟩;refine r16 ?_;refine r8 ?_;refine r3 ?_;refine cn hL ?_ ?_
 ·intro hc hL;refine r6 ?_;refine r1 ?_;exact rt hL hT hS
 ·intro hc hL;refine r8 ?_;refine r3 ?_;refine cn hL ?_ ?_
  ·intro hc hL;refine r8 ?_;refine r3 ?_;exact rt hL hT hS
  ·intro hc hL;refine r6 ?_;refine r1 ?_;obtain⟨x5,hx5,hL⟩:=bind_some hL;obtain⟨b6,o7,⟨a8,c9⟩,ZBI,ZCj,ZB8,ZHb⟩:=Sl.at_ ZK hx5;refine WO.w gN rfl (ZC Ur QR lk lk rfl ZBI hx5) ?_;have ZKX:Sl Zd wm h a8 c9 x5:=ZHb;refine WO.w gN rfl (ZU UJ (Yh fh rfl) (At.fz hS.fz ZB8 ZCj) (j:=0) rfl (v:= .slice a8 x5.length c9) rfl) ?_;refine r1 ?_;obtain⟨x10,ZFx,hL⟩:=bind_some hL;obtain⟨b11,o12,_,ZG6,ZIj,ZHN,ZNN⟩:=Sl.at_ ZKX ZFx;refine WO.w gN rfl (ZC Uq Xt lk lk rfl ZG6 ZFx) ?_;refine r1 ?_;refine WO.w gN rfl (ZU Xr (Yh fh rfl) (At.fz hS.fz ZHN ZIj) (j:=2) rfl (v:= .int .i64 x10.age) rfl) ?_;refine r6 ?_;exact rt hL hT hS
theorem ZoE {h:H} {p0:Zb} {p1:Int} {p2:Xj} {p3 p4:Int} {Zi:Option Addr} {Zh:Nat} {Zr:Option Addr} {Zp:Nat} {Zn:Option Addr} {Zm:Nat} {Zq:Option Addr} {Zo:Nat} {Zl:Option Addr} {Zk:Nat} {r:Bool} (Zz:Sl (Zy .i64) h.size h Zi Zh p0.Zv) (ZL:Sl (Z6 (Zy .i64)) h.size h Zr Zp p0.boxes) (ZK:Sl (Z6 Zd) h.size h Zn Zm p0.entries) (ZM:Sl (Z6 Zf) h.size h Zq Zo p0.held) (ZJ:Sl Zg h.size h Zl Zk p0.wire) (hL:Zkr p0 p1 p2 p3 p4=some r):Pure XX 53 #[.agg [.slice Zi p0.Zv.length Zh,.slice Zr p0.boxes.length Zp,.slice Zn p0.entries.length Zm,.slice Zq p0.held.length Zo,.slice Zl p0.wire.length Zk,.int .i64 p0.said].toArray,.int .i64 p1,.agg [.int .i64 p2.at_,.int .i64 p2.age,.int .i64 p2.letter,.bool p2.is].toArray,.int .i64 p3,.int .i64 p4] h (.bool r):=
 WR.XY rfl (ZDj (Nat.le_refl _) Zz ZL ZK ZM ZJ hL)
theorem ZDi {wm:Nat} {h:H} {p0:Zb} {p1:(List Xj)} {p2:Zj} {p3:Int} {p4:Bool} {Zi:Option Addr} {Zh:Nat} {Zr:Option Addr} {Zp:Nat} {Zn:Option Addr} {Zm:Nat} {Zq:Option Addr} {Zo:Nat} {Zl:Option Addr} {Zk:Nat} {Xd:Option Addr} {Xc:Nat} {r:Bool} (ZV:wm <=h.size) (Zz:Sl (Zy .i64) wm h Zi Zh p0.Zv) (ZL:Sl (Z6 (Zy .i64)) wm h Zr Zp p0.boxes) (ZK:Sl (Z6 Zd) wm h Zn Zm p0.entries) (ZM:Sl (Z6 Zf) wm h Zq Zo p0.held) (ZJ:Sl Zg wm h Zl Zk p0.wire) (QW:Sl ZaW wm h Xd Xc p1) (hL:ZmF p0 p1 p2 p3 p4=some r):
 WR XX 54 #[.agg [.slice Zi p0.Zv.length Zh,.slice Zr p0.boxes.length Zp,.slice Zn p0.entries.length Zm,.slice Zq p0.held.length Zo,.slice Zl p0.wire.length Zk,.int .i64 p0.said].toArray,.slice Xd p1.length Xc,.agg [.int .i64 p2.msg,.int .i64 p2.place,.int .i64 p2.from_,.int .i64 p2.age,.int .i64 p2.hops].toArray,.int .i64 p3,.bool p4] wm h (CP (fun(v:Value) (Gb:List (Ast wm))=>v= .bool r∧Gb= []) [] h):=by
 refine bg Tryz.ntmps54 ZV Ye.nil ?_;intro T hT hS;unfold ZmF at hL;refine r3 ?_;rintro _ h2 ⟨b1,eb1,rfl,hS⟩;refine r1 ?_;rintro _ h4 ⟨b3,eb3,rfl,hS⟩;refine r16 ?_;refine r16 ?_;refine r16 ?_;refine r6 ?_;refine r1 ?_;refine cn hL ?_ ?_
 ·intro hc hL;refine r6 ?_;refine r1 ?_;exact rt hL hT hS
 ·intro hc hL;refine r6 ?_;refine r1 ?_;obtain⟨x5,hx5,hL⟩:=bind_some hL;obtain⟨b6,o7,_,ZBI,ZCj,ZB8,ZHb⟩:=Sl.at_ QW hx5;refine WO.w gN rfl (ZC Uz XH lk lk rfl ZBI hx5) ?_;refine WO.w gN rfl (YX ZhM XH (Yh fh rfl) (At.fz hS.fz ZB8 ZCj) (j:=0) rfl rfl (ws:= [.int .i64 x5.at_,.int .i64 x5.age,.int .i64 x5.letter,.bool x5.is]) rfl) ?_;refine r1 ?_;rintro _ h9 ⟨b8,eb8,rfl,hS⟩;refine r1 ?_;rintro h10 hS;refine r8 ?_;refine cn hL ?_ ?_
  ·intro hc hL;refine r16 ?_;refine r6 ?_;refine r1 ?_;exact rt hL hT hS
  ·intro hc hL;refine r8 ?_;refine r3 ?_;obtain⟨YZ,Zfn,hL⟩:=bind_some hL;refine WO.cp gN rfl (XP.fn Zuw (Ze lk (Ze lk (Ze lk (Ze lk (Ze lk ZH)))))) (ZoE (hS.YE Zz) (hS.YE ZL) (hS.YE ZK) (hS.YE ZM) (hS.YE ZJ) Zfn) ?_;refine r4 ?_;exact rt hL hT hS
theorem ZvG {h:H} {p0:Zb} {p1:(List Xj)} {p2:Zj} {p3:Int} {p4:Bool} {Zi:Option Addr} {Zh:Nat} {Zr:Option Addr} {Zp:Nat} {Zn:Option Addr} {Zm:Nat} {Zq:Option Addr} {Zo:Nat} {Zl:Option Addr} {Zk:Nat} {Xd:Option Addr} {Xc:Nat} {r:Bool} (Zz:Sl (Zy .i64) h.size h Zi Zh p0.Zv) (ZL:Sl (Z6 (Zy .i64)) h.size h Zr Zp p0.boxes) (ZK:Sl (Z6 Zd) h.size h Zn Zm p0.entries) (ZM:Sl (Z6 Zf) h.size h Zq Zo p0.held) (ZJ:Sl Zg h.size h Zl Zk p0.wire) (QW:Sl ZaW h.size h Xd Xc p1) (hL:ZmF p0 p1 p2 p3 p4=some r):Pure XX 54 #[.agg [.slice Zi p0.Zv.length Zh,.slice Zr p0.boxes.length Zp,.slice Zn p0.entries.length Zm,.slice Zq p0.held.length Zo,.slice Zl p0.wire.length Zk,.int .i64 p0.said].toArray,.slice Xd p1.length Xc,.agg [.int .i64 p2.msg,.int .i64 p2.place,.int .i64 p2.from_,.int .i64 p2.age,.int .i64 p2.hops].toArray,.int .i64 p3,.bool p4] h (.bool r):=
 WR.XY rfl (ZDi (Nat.le_refl _) Zz ZL ZK ZM ZJ QW hL)
end Go.Proofs.YtbmbbcaaimehkaaGreat
end
end
section
namespace Go.Proofs.YtbmbbcaaimehkaaGreat
open Go.Lf
def Zkp (v35:Int) (ZjO:((List Int)×Int ->Option (List Int))) (x38:(List Zj)):(List Int)×Int ->((List Int)×Int ->Option (List Int)) ->Option (List Int):=fun(v46,v56) Ztz=>
 (bif decide (v56 < (x38.length:Int)) then(ZN x38 v56).bind fun x59=>(app 8 v46 [x59.msg]).bind fun z67=>Ztz (z67,Xl (v56 + 1)) else ZjO (v46,Xl (v35 + 1)))
def Zhc (v80:Int) (ZdY:((List Int)×Int ->Option (List Int))):(List Int) ->Option (List Int):=fun v85=>
 ZdY (v85,Xl (v80 + 1))
def Zhd (p0:Zb):(List Int)×Int ->((List Int)×Int ->Option (List Int)) ->Option (List Int):=fun(v73,v80) ZdY=>
 (bif decide (v80 < (p0.wire.length:Int)) then(ZN p0.wire v80).bind fun x93=>(bif(x93.kind==1) then(app 8 v73 [x93.Zu.msg]).bind fun z105=>(Zhc v80 ZdY) z105 else(Zhc v80 ZdY) v73) else some v73)
def Zhe (F:Nat) (p0:Zb):(List Int)×Int ->((List Int)×Int ->Option (List Int)) ->Option (List Int):=fun(v28,v35) ZjO=>
 (bif decide (v35 < (p0.held.length:Int)) then(ZN p0.held v35).bind fun x38=>loop F (Zkp v35 ZjO x38) (v28,0) else loop F (Zhd p0) (v28,0))
def Zkq (F:Nat) (p0:Zb):(List Int)×Int ->((List Int)×Int ->Option (List Int)) ->Option (List Int):=fun(v6,v13) Zgr=>
 (bif decide (v13 < (p0.boxes.length:Int)) then(ZN p0.boxes v13).bind fun x16=>(app 8 v6 x16).bind fun z21=>Zgr (z21,Xl (v13 + 1)) else loop F (Zhe F p0) (v6,0))
def ZvF (F:Nat) (p0:Zb):Option (List Int):=
 loop F (Zkq F p0) ([],0)
end Go.Proofs.YtbmbbcaaimehkaaGreat
end
section
set_option maxRecDepth 20000
set_option maxHeartbeats 4000000
noncomputable section
namespace Go.Proofs.YtbmbbcaaimehkaaGreat
open Go.Yr Go.Lf
theorem ZDh {F wm:Nat} {h:H} {p0:Zb} {Zi:Option Addr} {Zh:Nat} {Zr:Option Addr} {Zp:Nat} {Zn:Option Addr} {Zm:Nat} {Zq:Option Addr} {Zo:Nat} {Zl:Option Addr} {Zk:Nat} {r:(List Int)} (ZV:wm <=h.size) (Zz:Sl (Zy .i64) wm h Zi Zh p0.Zv) (ZL:Sl (Z6 (Zy .i64)) wm h Zr Zp p0.boxes) (ZK:Sl (Z6 Zd) wm h Zn Zm p0.entries) (ZM:Sl (Z6 Zf) wm h Zq Zo p0.held) (ZJ:Sl Zg wm h Zl Zk p0.wire) (hL:ZvF F p0=some r):
 WR XX 55 #[.agg [.slice Zi p0.Zv.length Zh,.slice Zr p0.boxes.length Zp,.slice Zn p0.entries.length Zm,.slice Zq p0.held.length Zo,.slice Zl p0.wire.length Zk,.int .i64 p0.said].toArray] wm h (CP (fun(v:Value) (Gb:List (Ast wm))=>∃ (XV:Option Addr) (XT:Nat) (XU:Nat),v= .slice XV XT XU∧Gb= [ow wm (Zy .i64) XV XT XU r]) [] h):=by
 refine bg Tryz.ntmps55 ZV Ye.nil ?_;intro T hT hS;unfold ZvF at hL;refine r3 ?_;rintro _ h2 ⟨b1,eb1,rfl,hS⟩;refine r16 ?_;refine r2 ?_;have hS:=hS.nil (e:= (Zy .i64));refine WC.loop (WL.lift hL (fun(p:(List Int)×Int) (s:Fs)=>match p with | (v6,v13)=>∃ (Uf:Fr) (h3:H) (a7:Option Addr) (c8:Nat) (n9:Nat),s= ⟨Uf,[],h3,none⟩∧Sp wm T h [ow wm (Zy .i64) a7 n9 c8 v6,bx wm b1 [.slice Zi p0.Zv.length Zh,.slice Zr p0.boxes.length Zp,.slice Zn p0.entries.length Zm,.slice Zq p0.held.length Zo,.slice Zl p0.wire.length Zk,.int .i64 p0.said]] h3∧Uf.at 1= .pointer (some ⟨b1,0,none⟩)∧Uf.at 3= .slice a7 n9 c8∧Uf.at 13= .slice Zr p0.boxes.length Zp∧Uf.at 14= .int .i64 (p0.boxes.length:Int)∧Uf.at 15= .int .i64 v13) ⟨_,_,none,0,0,rfl,hS.only (.c k0 (.c k0 .n)),YB⟩ ?_);clear hL hS;rintro Zgr ⟨v6,v13⟩ s Zj5 hL ⟨Uf,h3,a7,c8,n9,rfl,hS,e5,e10,e11,e12,e14⟩;obtain rfl:=hS.on k0;dsimp only [Zkq] at hL;refine r6 ?_;refine cn hL ?_ ?_
 ·intro hc hL;refine r6 ?_;obtain⟨x16,hx16,hL⟩:=bind_some hL;obtain⟨b17,o18,⟨a19,c20⟩,ZuJ,Zva,ZuW,Zp5⟩:=Sl.at_ ZL hx16;refine WO.w gN rfl (ZC Zao Jr lk lk rfl ZuJ hx16) ?_;have ZpY:Sl (Zy .i64) wm h a19 c20 x16:=Zp5;refine WO.w gN rfl (ZU Zci (Yh fh rfl) (At.fz hS.fz ZuW Zva) (j:=0) rfl (v:= .slice a19 x16.length c20) rfl) ?_;refine r6 ?_;obtain⟨z21,ZKA,hL⟩:=bind_some hL;refine WO.hv gN rfl (Zax (e:= (Zy .i64)) hS k0 Ux lk lk (Sl.src (hS.sl ZpY)) rfl ZKA) ?_;rintro _ h24 ⟨a22,c23,rfl,hS⟩;refine r8 ?_;exact Ya.Y4 (Zj5 _ _ hL ⟨_,_,a22,c23,z21.length,rfl,hS.only (.c k0 (.c k0 .n)),YB⟩)
 ·intro hc hL;refine XA ?_;refine r3 ?_;refine WC.loop (WL.lift hL (fun(p:(List Int)×Int) (s:Fs)=>match p with | (v28,v35)=>∃ (Zot:Fr) (h25:H) (a29:Option Addr) (c30:Nat) (n31:Nat),s= ⟨Zot,[],h25,none⟩∧Sp wm T h [ow wm (Zy .i64) a29 n31 c30 v28,bx wm b1 [.slice Zi p0.Zv.length Zh,.slice Zr p0.boxes.length Zp,.slice Zn p0.entries.length Zm,.slice Zq p0.held.length Zo,.slice Zl p0.wire.length Zk,.int .i64 p0.said]] h25∧Zot.at 1= .pointer (some ⟨b1,0,none⟩)∧Zot.at 3= .slice a29 n31 c30∧Zot.at 24= .slice Zq p0.held.length Zo∧Zot.at 25= .int .i64 (p0.held.length:Int)∧Zot.at 26= .int .i64 v35) ⟨_,_,a7,c8,v6.length,rfl,hS.only (.c k0 (.c k0 .n)),YB⟩ ?_);clear hL hS;rintro ZjO ⟨v28,v35⟩ s Zx4 hL ⟨Zot,h25,a29,c30,n31,rfl,hS,e27,e32,e33,e34,e36⟩;obtain rfl:=hS.on k0;dsimp only [Zhe] at hL;refine r6 ?_;refine cn hL ?_ ?_
  ·intro hc hL;refine r6 ?_;obtain⟨x38,hx38,hL⟩:=bind_some hL;obtain⟨b39,o40,⟨a41,c42⟩,ZGY,ZIa,ZHE,ZHh⟩:=Sl.at_ ZM hx38;refine WO.w gN rfl (ZC WZ QO lk lk rfl ZGY hx38) ?_;have ZFL:Sl Zf wm h a41 c42 x38:=ZHh;refine WO.w gN rfl (ZU Zch (Yh fh rfl) (At.fz hS.fz ZHE ZIa) (j:=0) rfl (v:= .slice a41 x38.length c42) rfl) ?_;refine r8 ?_;refine r3 ?_;refine WC.loop (WL.lift hL (fun(p:(List Int)×Int) (s:Fs)=>match p with | (v46,v56)=>∃ (Zie:Fr) (h43:H) (a47:Option Addr) (c48:Nat) (n49:Nat),s= ⟨Zie,[],h43,none⟩∧Sp wm T h [ow wm (Zy .i64) a47 n49 c48 v46,bx wm b1 [.slice Zi p0.Zv.length Zh,.slice Zr p0.boxes.length Zp,.slice Zn p0.entries.length Zm,.slice Zq p0.held.length Zo,.slice Zl p0.wire.length Zk,.int .i64 p0.said]] h43∧Zie.at 1= .pointer (some ⟨b1,0,none⟩)∧Zie.at 3= .slice a47 n49 c48∧Zie.at 24= .slice Zq p0.held.length Zo∧Zie.at 25= .int .i64 (p0.held.length:Int)∧Zie.at 26= .int .i64 v35∧Zie.at 30= .slice a41 x38.length c42∧Zie.at 31= .int .i64 (x38.length:Int)∧Zie.at 32= .int .i64 v56) ⟨_,_,a29,c30,v28.length,rfl,hS.only (.c k0 (.c k0 .n)),YB⟩ ?_);clear hL hS;rintro Ztz ⟨v46,v56⟩ s ZxZ hL ⟨Zie,h43,a47,c48,n49,rfl,hS,e45,e50,e51,e52,e53,e54,e55,e57⟩;obtain rfl:=hS.on k0;dsimp only [Zkp] at hL;refine r6 ?_;refine cn hL ?_ ?_
   ·intro hc hL;refine r6 ?_;obtain⟨x59,ZFk,hL⟩:=bind_some hL;obtain⟨b60,o61,_,ZGQ,ZH2,ZHu,ZNB⟩:=Sl.at_ ZFL ZFk;refine WO.w gN rfl (ZC Zan JU lk lk rfl ZGQ ZFk) ?_;refine WO.w gN rfl (YX Zji JU (Yh fh rfl) (At.fz hS.fz ZHu ZH2) (j:=0) rfl rfl (ws:= [.int .i64 x59.msg,.int .i64 x59.place,.int .i64 x59.from_,.int .i64 x59.age,.int .i64 x59.hops]) rfl) ?_;refine r1 ?_;rintro _ h63 ⟨b62,ZQS,rfl,hS⟩;refine r1 ?_;rintro h64 hS;refine r6 ?_;refine WO.hn gN rfl (ZbX (e:= (Zy .i64)) hS YG YN ZfW rfl rfl rfl (ZG lk Yi) rfl [((),x59.msg)] rfl (xs:= [x59.msg]) rfl (by intro q hq;simp only [List.mem_cons,List.not_mem_nil,or_false] at hq;subst hq;exact trivial) rfl) ?_;rintro _ h66 ⟨b65,ZQQ,rfl,hS⟩;obtain⟨z67,ZKu,hL⟩:=bind_some hL;refine WO.hv gN rfl (Zax (e:= (Zy .i64)) hS k2 Ux lk lk (hS.JP k0) (hS.on k0) ZKu) ?_;rintro _ h70 ⟨a68,c69,rfl,hS⟩;refine r8 ?_;exact Ya.Y4 (ZxZ _ _ hL ⟨_,_,a68,c69,z67.length,rfl,hS.only (.c k0 (.c k2 .n)),YB⟩)
   ·intro hc hL;refine r8 ?_;refine r2 ?_;exact Ya.Y4 (Zx4 _ _ hL ⟨_,_,a47,c48,v46.length,rfl,hS.only (.c k0 (.c k0 .n)),YB⟩)
  ·intro hc hL;refine XA ?_;refine r3 ?_;refine WC.loop (WL.lift hL (fun(p:(List Int)×Int) (s:Fs)=>match p with | (v73,v80)=>∃ (Zrn:Fr) (h71:H) (a74:Option Addr) (c75:Nat) (n76:Nat),s= ⟨Zrn,[],h71,none⟩∧Sp wm T h [ow wm (Zy .i64) a74 n76 c75 v73] h71∧Zrn.at 3= .slice a74 n76 c75∧Zrn.at 44= .slice Zl p0.wire.length Zk∧Zrn.at 45= .int .i64 (p0.wire.length:Int)∧Zrn.at 46= .int .i64 v80) ⟨_,_,a29,c30,v28.length,rfl,hS.only (.c k0 .n),YB⟩ ?_);clear hL hS;rintro ZdY ⟨v73,v80⟩ s ZxR hL ⟨Zrn,h71,a74,c75,n76,rfl,hS,e77,e78,e79,e81⟩;obtain rfl:=hS.on k0;dsimp only [Zhd] at hL;refine r6 ?_;refine cn hL ?_ ?_
   ·intro hc hL;refine r2 ?_;refine WC.Zco (r:=r) (fun(v85:(List Int)) (s:Fs)=>∃ (Zrm:Fr) (h83:H) (a86:Option Addr) (c87:Nat) (n88:Nat),s= ⟨Zrm,[],h83,none⟩∧Sp wm T h [ow wm (Zy .i64) a86 n88 c87 v85] h83∧Zrm.at 3= .slice a86 n88 c87∧Zrm.at 44= .slice Zl p0.wire.length Zk∧Zrm.at 45= .int .i64 (p0.wire.length:Int)∧Zrm.at 46= .int .i64 v80) (Zhc v80 ZdY) ?_ ?_
    ·clear hL hS;rintro v85 s hL ⟨Zrm,h83,a86,c87,n88,rfl,hS,e89,e90,e91,e92⟩;obtain rfl:=hS.on k0;dsimp only [Zhc] at hL;refine r4 ?_;exact Ya.Y4 (ZxR _ _ hL ⟨_,_,a86,c87,v85.length,rfl,hS.only (.c k0 .n),YB⟩)
    ·skip;refine r3 ?_;obtain⟨x93,hx93,hL⟩:=bind_some hL;obtain⟨b94,o95,⟨⟨a96,c97⟩,⟨a98,c99⟩⟩,Zuz,ZuZ,ZuR,Zms⟩:=Sl.at_ ZJ hx93;refine WO.w gN rfl (ZC Ja YF lk lk rfl Zuz hx93) ?_;have ZFA:Sl (Zy .i64) wm h a96 c97 x93.places:=Zms.1;have ZFz:Sl (Zy .i64) wm h a98 c99 x93.ZW:=Zms.2;refine WO.w gN rfl (YX Km YF (Yh fh rfl) (At.fz hS.fz ZuR ZuZ) (j:=0) rfl rfl (ws:= [.int .i64 x93.kind,.int .i64 x93.ZR,.int .i64 x93.Zu.msg,.int .i64 x93.Zu.place,.int .i64 x93.Zu.from_,.int .i64 x93.Zu.age,.int .i64 x93.Zu.hops,.slice a96 x93.places.length c97,.slice a98 x93.ZW.length c99,.int .i64 x93.place,.int .i64 x93.at_,.int .i64 x93.age]) rfl) ?_;refine r1 ?_;rintro _ Zvd ⟨ZMv,ZIy,rfl,hS⟩;refine r1 ?_;rintro ZIp hS;refine r8 ?_;refine r1 ?_;refine cn hL ?_ ?_
     ·intro hc hL;refine r4 ?_;refine r1 ?_;refine WO.hn gN rfl (ZbX (e:= (Zy .i64)) hS YG YN ZfW rfl rfl rfl (ZG lk Yi) rfl [((),x93.Zu.msg)] rfl (xs:= [x93.Zu.msg]) rfl (by intro q hq;simp only [List.mem_cons,List.not_mem_nil,or_false] at hq;subst hq;exact trivial) rfl) ?_;rintro _ ZLP ⟨ZMu,ZIx,rfl,hS⟩;obtain⟨z105,ZtW,hL⟩:=bind_some hL;refine WO.hv gN rfl (Zax (e:= (Zy .i64)) hS k2 Ux lk lk (hS.JP k0) (hS.on k0) ZtW) ?_;rintro _ ZLO ⟨Zsa,c107,rfl,hS⟩;refine r3 ?_;exact XO.Y4 _ hL ⟨_,_,Zsa,c107,z105.length,rfl,hS.only (.c k0 .n),YB⟩
     ·intro hc hL;refine r2 ?_;exact XO.Y4 _ hL ⟨_,_,a74,c75,v73.length,rfl,hS.only (.c k1 .n),YB⟩
   ·intro hc hL;refine XA ?_;have hr:=Oi0 hL;subst hr;exact YJ.UC rfl (Z0 lk ZX) ⟨_,⟨a74,v73.length,c75,rfl,rfl⟩,hT ▸ hS.only (.c k0 .n)⟩
end Go.Proofs.YtbmbbcaaimehkaaGreat
end
end
