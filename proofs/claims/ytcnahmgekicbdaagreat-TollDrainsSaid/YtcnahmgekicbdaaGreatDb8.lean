/- Part 8. -/
import GoSem.Core.View
import Derived.Test.YtcnahmgekicbdaaGreatDb7
set_option linter.all false
set_option maxHeartbeats 2000000
section
namespace Go.Lf
def loop {α β:Type}:Nat ->(α ->(α ->Option β) ->Option β) ->α ->Option β
 | 0,_,_=>none
 | F + 1,body,a=>body a (loop F body)
theorem Jp {α β:Type} (F:Nat) (body:α ->(α ->Option β) ->Option β) (a:α):loop (F + 1) body a=body a (loop F body):=rfl
def ZF {α:Type} (l:List α) (k:Int):Option α:=bif decide (0 <=k) then l[k.toNat]? else none
theorem Zdf {α:Type} (l:List α) (k:Nat):ZF l (k:Int)=l[k]?:=by simp [ZF]
theorem Qt {α:Type} {l:List α} {k:Int} {x:α} (h:ZF l k=some x):(k.toNat:Int)=k/\k.toNat < l.length/\l[k.toNat]? =some x:=by
 unfold ZF at h;by_cases hk:0 <=k
 ·rw [decide_eq_true hk,Cq1] at h;exact⟨by omega,(Li0 h).1,h⟩
 ·rw [decide_eq_false hk,Cq0] at h;cases h
def ZE {α:Type} (l:List α) (k:Int) (x:α):List α:=l.set k.toNat x
def Yd (n:Int):Int:=Go.IntKind.i64.wrap n
theorem Zam {n:Int} (h1:-9223372036854775808 <=n) (h2:n <=9223372036854775807):Yd n=n:=by
 unfold Yd Go.IntKind.wrap;have e1:(2 ^ IntKind.i64.bits:Int)=18446744073709551616:=by decide
 have e2:(2 ^ (IntKind.i64.bits - 1):Int)=9223372036854775808:=by decide
 have e3:IntKind.i64.signed=true:=rfl;rw [e1,e2,e3];dsimp only;split
 ·rename_i h;simp at h;omega
 ·rename_i h;simp at h;omega
def ZsA (a b:Int):Option Int:=bif b==0 then none else some (Yd (a.tdiv b))
def Zja (a b:Int):Option Int:=bif b==0 then none else some (a.tmod b)
theorem Zws {a b c:Int} (h:ZsA a b=some c):b ≠ 0/\c=Yd (a.tdiv b):=by
 unfold ZsA at h;cases e:b==0 with
 | true=>rw [e] at h;cases h
 | false=>rw [e] at h;cases h;exact⟨by simpa using e,rfl⟩
theorem Zwq {a b c:Int} (h:Zja a b=some c):b ≠ 0/\c=a.tmod b:=by
 unfold Zja at h;cases e:b==0 with
 | true=>rw [e] at h;cases h
 | false=>rw [e] at h;cases h;exact⟨by simpa using e,rfl⟩
def mkL {α:Type} (z:α) (JO:Nat) (a b:Int):Option (List α):=bif decide (0 <=a) && (decide (a <=b) && Nat.ble (JO * b.toNat) 100000) then some (List.replicate a.toNat z) else none
def slL {α:Type} (xs:List α) (lo hi:Int):Option (List α):=bif decide (0 <=lo) && (decide (lo <=hi) && decide (hi <=xs.length)) then some ((xs.take hi.toNat).drop lo.toNat) else none
def gd {α:Type} (g:Bool) (m:Option α) (d:α):Option α:=bif g then m else some d
theorem Qm {α:Type} (m:Option α) (d:α):gd true m d=m:=rfl
theorem QL {α:Type} (m:Option α) (d:α):gd false m d=some d:=rfl
def app {α:Type} (JO:Nat) (xs ys:List α):Option (List α):=bif Nat.ble ((2 * (xs.length + ys.length) + 1000) * JO) (2 ^ 47) then some (xs ++ ys) else none
theorem Zuc {α:Type} {JO:Nat} {xs ys:List α} (h:(2 * (xs.length + ys.length) + 1000) * JO <=2 ^ 47):app JO xs ys=some (xs ++ ys):=by
 unfold app;rw [Nm0 h];rfl
theorem Zgc {α:Type} {JO:Nat} {xs ys zs:List α} (h:app JO xs ys=some zs):zs=xs ++ ys/\(2 * (xs.length + ys.length) + 1000) * JO <=2 ^ 47:=by
 unfold app at h;cases hb:Nat.ble ((2 * (xs.length + ys.length) + 1000) * JO) (2 ^ 47) <;> rw [hb] at h
 ·cases h
 ·cases h;exact⟨rfl,Nl0 hb⟩
theorem bS {α β:Type} {m:Option α} {f:α ->Option β} {r:β} (h:m.bind f=some r):∃ x,m=some x/\f x=some r:=Option.bind_eq_some_iff.1 h
theorem XM {α β:Type} {g:Bool} {m:Option α} {d:α} {f:α ->Option β} {r:β} (h:(gd g m d).bind f=some r):∃ x,(g=true ->m=some x)/\f x=some r:=by
 obtain⟨x,h1,h2⟩:=bS h;refine⟨x,fun hg=>?_,h2⟩;subst hg;exact h1
theorem Q9 {α:Type} {c:Bool} {a b r:α} (hc:c=true) (h:(bif c then a else b)=r):a=r:=by subst hc;exact h
theorem Ja {α:Type} {c:Bool} {a b r:α} (hc:c=false) (h:(bif c then a else b)=r):b=r:=by subst hc;exact h
def Zaw {κ ν:Type} [DecidableEq κ]:List (κ×ν) ->κ ->Option (Nat×ν)
 | [],_=>none
 | p::l,k=>if p.1=k then some (0,p.2) else(Zaw l k).map fun q=>(q.1 + 1,q.2)
def ZFS {κ ν:Type} [DecidableEq κ] (l:List (κ×ν)) (k:κ):Option ν:= (Zaw l k).map (·.2)
def ZsS {κ ν:Type} [DecidableEq κ] (l:List (κ×ν)) (k:κ) (x:ν):List (κ×ν):=match Zaw l k with
 | some q=>l.modify q.1 fun p=>(p.1,x)
 | none=>l ++ [(k,x)]
def ZZh {κ ν:Type} [DecidableEq κ] (l:List (κ×ν)) (k:κ) (z:ν):Option ν:=some ((ZFS l k).getD z)
section
variable {κ ν:Type} [DecidableEq κ]
theorem ZsT {l:List (κ×ν)} {k:κ} {q:Nat×ν} (h:Zaw l k=some q):l[q.1]? =some (k,q.2):=by
 induction l generalizing q with
 | nil=>cases h
 | cons p l ih=>
   unfold Zaw at h;split at h
   ·rename_i e;cases h;simp [<- e]
   ·cases e:Zaw l k with
    | none=>rw [e] at h;cases h
    | some q'=>rw [e] at h;cases h;simpa using ih e
end
def JE (x:Int):Option Int:=bif decide (0 <=x) && decide (x <=12) then some ([0,1,2,2,3,3,3,3,4,4,4,4,4].getD x.toNat 0) else none
end Go.Lf
end
section
noncomputable section
namespace Go.Xv
open Go.Lf
section
structure Fz (wm:Nat) (h h':H):Prop where
 size:h.size <=h'.size
 keep:∀ i cs own z,h.at i= .row cs own z ->(i < wm\/own=false) ->h'.at i= .row cs own z
 low:∀ i,i < wm ->i < h.size ->h'.at i=h.at i
theorem Fz.refl (wm:Nat) (h:H):Fz wm h h:= ⟨Nat.le_refl _,fun _ _ _ _ e _=>e,fun _ _ _=>rfl⟩
theorem Fz.trans {wm:Nat} {a b c:H} (x:Fz wm a b) (y:Fz wm b c):Fz wm a c:=
 ⟨Nat.le_trans x.size y.size,fun i cs own z e s=>y.keep i cs own z (x.keep i cs own z e s) s,fun i h1 h2=>(y.low i h1 (Nat.lt_of_lt_of_le h2 x.size)).trans (x.low i h1 h2)⟩
structure Up (lo:Nat) (t:Nat ->Prop) (h h':H):Prop where
 size:h.size <=h'.size
 keep:∀ i,i < h.size ->¬ t i ->h'.at i=h.at i
 own:∀ i,t i ->lo <=i/\(h.at i).own=true
theorem Up.fz {lo wm:Nat} {t:Nat ->Prop} {h h':H} (u:Up lo t h h') (hw:wm <=lo):Fz wm h h':=by
 refine⟨u.size,fun i cs own z e s=>?_,fun i h1 h2=>u.keep i h2 fun ht=>by have:= (u.own i ht).1;omega⟩;rw [u.keep i (QE e rfl) ?_,e];intro ht;obtain⟨h1,h2⟩:=u.own i ht;rw [e] at h2;rcases s with s | s
 ·omega
 ·subst s;cases h2
theorem Up.ZFQ {h h':H} (lo:Nat) (g:Grow h h'):Up lo (fun _=>False) h h':= ⟨g.size,fun i hi _=>g.keep i hi,fun _ e=>e.elim⟩
theorem Up.push (lo:Nat) (h:H) (A:Qj):Up lo (fun _=>False) h (h.push A):=Up.ZFQ lo ((Grow.refl h).push A)
theorem Up.put {lo:Nat} {h:H} {b:Nat} {A:Qj} (hl:lo <=b) (ho:(h.at b).own=true):Up lo (fun i=>i=b) h (h.put b A):=
 ⟨Nat.le_refl _,fun i _ hn=>Jy hn A,fun i e=>by subst e;exact⟨hl,ho⟩⟩
def At (h:H) (b o:Nat) (vs:List Value):Prop:=∃ cs own z,h.at b= .row cs own z/\(cs.drop o).take vs.length=vs/\o + vs.length <=cs.length
def Stb (wm:Nat) (h:H) (b:Nat):Prop:=b < wm\/(h.at b).own=false
theorem At.box {h:H} {b:Nat} {vs:List Value} {own:Bool} {z:Nat} (hb:h.at b= .row vs own z):At h b 0 vs:= ⟨vs,own,z,hb,by simp,by omega⟩
theorem At.fz {wm:Nat} {h h':H} {b o:Nat} {vs:List Value} (f:Fz wm h h') (s:Stb wm h b) (a:At h b o vs):At h' b o vs:=by
 obtain⟨cs,own,z,h1,h2,h3⟩:=a;exact⟨cs,own,z,f.keep _ _ _ _ h1 (s.imp id fun e=>by rw [h1] at e;exact e),h2,h3⟩
theorem Stb.fz {wm:Nat} {h h':H} {b o:Nat} {vs:List Value} (f:Fz wm h h') (a:At h b o vs) (s:Stb wm h b):Stb wm h' b:=by
 obtain⟨cs,own,z,h1,_,_⟩:=a;refine s.imp id fun e=>?_
 rw [h1] at e;rw [f.keep _ _ _ _ h1 (.inr e)];exact e
theorem Stb.up {wm wm':Nat} {h:H} {b:Nat} (hw:wm <=wm') (s:Stb wm h b):Stb wm' h b:=s.imp (fun x=>Nat.lt_of_lt_of_le x hw) id
theorem At.cell {h:H} {b o j:Nat} {vs:List Value} {v:Value} (a:At h b o vs) (hv:vs[j]? =some v):∃ cs own z,h.at b= .row cs own z/\cs[o + j]? =some v:=by
 obtain⟨cs,own,z,h1,h2,h3⟩:=a;refine⟨cs,own,z,h1,?_⟩;have hj:= (Li0 hv).1;rw [<- h2,List.getElem?_take_of_lt hj,List.getElem?_drop] at hv;exact hv
theorem At.part {h:H} {b o j n:Nat} {vs ws:List Value} (a:At h b o vs) (hj:j + n <=vs.length) (hw:(vs.drop j).take n=ws):∃ cs own z,h.at b= .row cs own z/\o + j + n <=cs.length/\(cs.drop (o + j)).take n=ws:=by
 obtain⟨cs,own,z,h1,h2,h3⟩:=a;refine⟨cs,own,z,h1,by omega,?_⟩;rw [<- hw,<- h2,List.drop_take,List.take_take,List.drop_drop];have e:min n (vs.length - j)=n:=by omega
 rw [e]
structure Ux (α:Type) where
 sz:Nat
 pos:0 < sz
 KH:Type
 dflt:KH
 sh:KH ->α ->List Value
 len:∀ p x,(sh p x).length=sz
 one:∀ p x,(sh p x).all Value.oneCell'=true
 F:Nat ->H ->KH ->α ->Prop
 mono:∀ {wm h h' p x},Fz wm h h' ->F wm h p x ->F wm h' p x
 up:∀ {wm wm' h p x},wm <=wm' ->F wm h p x ->F wm' h p x
def Zuo (a:Option Addr) (c:Nat):Prop:= (a=none/\c=0)\/(a=some ⟨0,0,some 0⟩/\c=0)\/∃ i o,a=some ⟨i,o,none⟩
structure Jd {α:Type} (e:Ux α) (wm:Nat) (h:H) (cs:List Value) (o:Nat) (xs:List α):Prop where
 len:o + xs.length * e.sz <=cs.length
 get:∀ k x,xs[k]? =some x ->∃ q,(cs.drop (o + k * e.sz)).take e.sz=e.sh q x/\e.F wm h q x
theorem Jd.mono {α:Type} {e:Ux α} {wm:Nat} {h h':H} {cs:List Value} {o:Nat} {xs:List α} (f:Fz wm h h') (a:Jd e wm h cs o xs):Jd e wm h' cs o xs:=
 ⟨a.len,fun k x hk=>let⟨q,h1,h2⟩:=a.get k x hk;⟨q,h1,e.mono f h2⟩⟩
theorem Jd.up {α:Type} {e:Ux α} {wm wm':Nat} {h:H} {cs:List Value} {o:Nat} {xs:List α} (f:wm <=wm') (a:Jd e wm h cs o xs):Jd e wm' h cs o xs:=
 ⟨a.len,fun k x hk=>let⟨q,h1,h2⟩:=a.get k x hk;⟨q,h1,e.up f h2⟩⟩
structure Src {α:Type} (e:Ux α) (wm:Nat) (h:H) (a:Option Addr) (c:Nat) (xs:List α):Prop where
 max:xs.length <=9223372036854775807
 cap:xs.length <=c / 2
 nl:Zuo a c
 mem:xs= []\/∃ i o cs own z,a=some ⟨i,o,none⟩/\h.at i= .row cs own z/\Jd e wm h cs o xs
structure Sl {α:Type} (e:Ux α) (wm:Nat) (h:H) (a:Option Addr) (c:Nat) (xs:List α):Prop where
 max:xs.length <=9223372036854775807
 cap:xs.length <=c / 2
 nl:Zuo a c
 mem:xs= []\/∃ i o cs own z,a=some ⟨i,o,none⟩/\h.at i= .row cs own z/\(i < wm\/own=false)/\Jd e wm h cs o xs
structure Qq {α:Type} (e:Ux α) (wm lo:Nat) (h:H) (a:Option Addr) (c:Nat) (xs:List α):Prop where
 max:xs.length <=9223372036854775807
 mem:(a=none/\c=0/\xs= [])\/∃ i o cs,a=some ⟨i,o,none⟩/\lo <=i/\h.at i= .row cs true e.sz/\xs.length <=c / 2/\o + (c / 2) * e.sz <=cs.length/\Jd e wm h cs o xs
variable {α:Type} {e:Ux α} {wm wm' lo:Nat} {h h':H} {a:Option Addr} {c:Nat} {xs:List α}
theorem Sl.src (s:Sl e wm h a c xs):Src e wm h a c xs:= ⟨s.max,s.cap,s.nl,s.mem.imp id fun⟨i,o,cs,own,z,h1,h2,_,h4⟩=>⟨i,o,cs,own,z,h1,h2,h4⟩⟩
theorem Qq.nl (s:Qq e wm lo h a c xs):Zuo a c:=by
 rcases s.mem with⟨h1,h2,_⟩ | ⟨i,o,cs,h1,_⟩
 ·exact .inl ⟨h1,h2⟩
 ·exact .inr (.inr ⟨i,o,h1⟩)
theorem Qq.cap (s:Qq e wm lo h a c xs):xs.length <=c / 2:=by
 rcases s.mem with⟨_,_,h3⟩ | ⟨i,o,cs,h1,_,h3,h4,_⟩
 ·subst h3;exact Nat.zero_le _
 ·exact h4
theorem Qq.src (s:Qq e wm lo h a c xs):Src e wm h a c xs:= ⟨s.max,s.cap,s.nl,by
 rcases s.mem with⟨_,_,h3⟩ | ⟨i,o,cs,h1,_,h3,_,_,h6⟩
 ·exact .inl h3
 ·exact .inr ⟨i,o,cs,true,_,h1,h3,h6⟩⟩
theorem Sl.mono (f:Fz wm h h') (s:Sl e wm h a c xs):Sl e wm h' a c xs:= ⟨s.max,s.cap,s.nl,s.mem.imp id fun⟨i,o,cs,own,z,h1,h2,h3,h4⟩=>⟨i,o,cs,own,z,h1,f.keep _ _ _ _ h2 h3,h3,h4.mono f⟩⟩
theorem Sl.up (f:wm <=wm') (s:Sl e wm h a c xs):Sl e wm' h a c xs:= ⟨s.max,s.cap,s.nl,s.mem.imp id fun⟨i,o,cs,own,z,h1,h2,h3,h4⟩=>⟨i,o,cs,own,z,h1,h2,h3.imp (fun x=>by omega) id,h4.up f⟩⟩
theorem Src.sl (s:Src e wm h a c xs) (hw:wm <=h.size):Sl e h.size h a c xs:= ⟨s.max,s.cap,s.nl,s.mem.imp id fun⟨i,o,cs,own,z,h1,h2,h4⟩=>⟨i,o,cs,own,z,h1,h2,.inl (QE h2 rfl),h4.up hw⟩⟩
theorem Sl.nil:Sl e wm h none 0 ([]:List α):= ⟨by simp,by simp,.inl ⟨rfl,rfl⟩,.inl rfl⟩
theorem Qq.nil:Qq e wm lo h none 0 ([]:List α):= ⟨by simp,.inl ⟨rfl,rfl,rfl⟩⟩
def X8 (a:Option Addr) (i:Nat):Prop:=∃ o,a=some ⟨i,o,none⟩
theorem Src.at_ {k:Int} {x:α} (s:Src e wm h a c xs) (hk:ZF xs k=some x):∃ i o q,a=some ⟨i,o,none⟩/\At h i (o + k.toNat * e.sz) (e.sh q x)/\e.F wm h q x:=by
 obtain⟨h1,h2,h3⟩:=Qt hk;rcases s.mem with z | ⟨i,o,cs,own,z,q1,q2,q3⟩
 ·subst z;simp at h2
 ·obtain⟨q,g1,g2⟩:=q3.get _ _ h3;refine⟨i,o,q,q1,⟨cs,own,z,q2,by rw [e.len];exact g1,?_⟩,g2⟩;rw [e.len];have:=q3.len;have:(k.toNat + 1) * e.sz <=xs.length * e.sz:=Nat.mul_le_mul_right _ h2;rw [Nat.succ_mul] at this;omega
theorem Sl.at_ {k:Int} {x:α} (s:Sl e wm h a c xs) (hk:ZF xs k=some x):∃ i o q,a=some ⟨i,o,none⟩/\At h i (o + k.toNat * e.sz) (e.sh q x)/\Stb wm h i/\e.F wm h q x:=by
 obtain⟨h1,h2,h3⟩:=Qt hk;rcases s.mem with z | ⟨i,o,cs,own,z,q1,q2,q4,q3⟩
 ·subst z;simp at h2
 ·obtain⟨q,g1,g2⟩:=q3.get _ _ h3;refine⟨i,o,q,q1,⟨cs,own,z,q2,by rw [e.len];exact g1,?_⟩,q4.imp id (fun z=>by rw [q2];exact z),g2⟩;rw [e.len];have:=q3.len;have:(k.toNat + 1) * e.sz <=xs.length * e.sz:=Nat.mul_le_mul_right _ h2;rw [Nat.succ_mul] at this;omega
def Zl (k:IntKind):Ux Int where
 sz:=1
 pos:=Nat.one_pos
 KH:=Unit
 dflt:= ()
 sh:=fun _ x=>[.int k x]
 len:=fun _ _=>rfl
 one:=fun _ _=>rfl
 F:=fun _ _ _ _=>True
 mono:=fun _ x=>x
 up:=fun _ x=>x
def Xn {α:Type} (e:Ux α):Ux (List α) where
 sz:=1
 pos:=Nat.one_pos
 KH:=Option Addr×Nat
 dflt:= (none,0)
 sh:=fun p x=>[.slice p.1 x.length p.2]
 len:=fun _ _=>rfl
 one:=fun _ _=>rfl
 F:=fun wm h p x=>Sl e wm h p.1 p.2 x
 mono:=fun f x=>x.mono f
 up:=fun f x=>x.up f
end
section
variable {X:Ctx} {n wm:Nat} {rd:Option Nat} {s:Fs} {Q:XX ->Fs ->Prop}
theorem Za1 (fr:Fr) (d:Nat) (v:Value):Fr.at (Tr.set fr d v) d=v:=by rw [at_set,if_pos rfl]
theorem Zr {fr:Fr} {d t:Nat} {v w:Value} (hn:Nat.beq t d=false) (k:Fr.at fr t=v):Fr.at (Tr.set fr d w) t=v:=by
 rw [at_set,if_neg (fun e=>by rw [e,Nat.beq_refl] at hn;cases hn)];exact k
theorem YC {fr:Fr} {a b t:Nat} {v x y:Value} (hn:(Nat.beq t a || Nat.beq t b)=false) (k:Fr.at fr t=v):Fr.at (Tr.set (Tr.set fr b y) a x) t=v:=by
 rw [Bool.or_eq_false_iff] at hn;exact Zr hn.1 (Zr hn.2 k)
theorem XC {fr:Fr} {a b c d t:Nat} {v x y z w:Value} (hn:((Nat.beq t a || Nat.beq t b) || (Nat.beq t c || Nat.beq t d))=false) (k:Fr.at fr t=v):Fr.at (Tr.set (Tr.set (Tr.set (Tr.set fr d w) c z) b y) a x) t=v:=by
 rw [Bool.or_eq_false_iff] at hn;exact YC hn.1 (YC hn.2 k)
theorem ZW {fr:Fr} {a b c d a' b' c' d' t:Nat} {v x y z w x' y' z' w':Value} (hn:(((Nat.beq t a || Nat.beq t b) || (Nat.beq t c || Nat.beq t d)) || ((Nat.beq t a' || Nat.beq t b') || (Nat.beq t c' || Nat.beq t d')))=false) (k:Fr.at fr t=v):
 Fr.at (Tr.set (Tr.set (Tr.set (Tr.set (Tr.set (Tr.set (Tr.set (Tr.set fr d' w') c' z') b' y') a' x') d w) c z) b y) a x) t=v:=by
 rw [Bool.or_eq_false_iff] at hn;exact XC hn.1 (XC hn.2 k)
theorem fh {fr:Fr} {d:Nat} {v:Value}:Fr.at (Tr.set fr d v) d=v:=Za1 _ _ _
theorem Ya {fr:Fr} {t:Nat} {v:Value} (h:fr.at t=v) (ha:Wx v=false):Xf fr (.tmp t)=some v:=by rw [ZiE,h,ha];rfl
theorem Q8 {fr:Fr} {t:Nat} {c:Bool} {v:Value} (h:fr.at t=cond c v undef) (ha:Wx v=false):c=true ->Xf fr (.tmp t)=some v:=fun hc=>by
 rw [ZiE,h,hc,Cq1,ha];rfl
theorem evC {fr:Fr} {v:Value} (h:plain v=true):Xf fr (.const v)=some v:=by rw [ZxZ,h];rfl
theorem ZWr {a b:Bool} (h:(a && b)=true):b=true:=by cases a <;> simp_all
theorem ZVe {fr:Fr} {t:Nat} {c b:Bool} (h:fr.at t=cond c (.bool b) undef):Xf fr (.tmp t)=some (cond c (.bool b) undef):=by
 rw [ZiE,h];cases c <;> rfl
theorem ZvK {fr:Fr} {t:Nat} {a c b:Bool} (h:fr.at t=cond (a && c) (.bool b) undef) (ha:a=true):Xf fr (.tmp t)=some (cond c (.bool b) undef):=by
 subst ha;rw [ZiE,h];cases c <;> rfl
def ZWR {α β:Type} (I:α ->Fs ->Prop) (j:α ->Option β) (r:β) (Q:XX ->Fs ->Prop):XX ->Fs ->Prop:=fun e s=>
 match e with
 | .normal=>∃ a,j a=some r/\I a s
 | e=>Q e s
structure QU {α β:Type} (I:α ->Fs ->Prop) (j:α ->Option β) (r:β) (Q:XX ->Fs ->Prop) (e:XX) (s:Fs):Prop where
 out:ZWR I j r Q e s
theorem QU.Xx {α β:Type} {I:α ->Fs ->Prop} {j:α ->Option β} {r:β} (a:α) (h:j a=some r) (i:I a s):QU I j r Q .normal s:= ⟨a,h,i⟩
theorem QU.ret {α β:Type} {I:α ->Fs ->Prop} {j:α ->Option β} {r:β} (h:Q .ret s):QU I j r Q .ret s:= ⟨h⟩
theorem WC.Zd9 {α β:Type} {a b:Code} {r:β} (I:α ->Fs ->Prop) (j:α ->Option β) (k:∀ x s',j x=some r ->I x s' ->WC X n wm rd b s' Q) (h:WC X n wm rd a s (QU I j r Q)):WC X n wm rd (.seq a b) s Q:=by
 refine WC.seq (h.mono fun e s' q=>⟨?_⟩);have q:=q.out;cases e with
 | normal=>obtain⟨x,h1,h2⟩:=q;exact k x s' h1 h2
 | _=>exact q
theorem WC.ZVD {c:Operand} {a b:Code} {t:Bool} {fr:Fr} {ds:List Deferred} {h:H} (hc:Xf fr c=some (.bool t)) (h1:t=true ->WC X n wm rd a ⟨fr,ds,h,none⟩ Q) (h2:t=false ->WC X n wm rd b ⟨fr,ds,h,none⟩ Q):WC X n wm rd (.cond c a b) ⟨fr,ds,h,none⟩ Q:=WC.cond (s:= ⟨fr,ds,h,none⟩) hc h1 h2
theorem WC.ZoI {c:Operand} {a b:Code} {t:Bool} {fr:Fr} {ds:List Deferred} {h:H} (hc:Xf fr c=some (.bool t)) (ht:t=true) (k:WC X n wm rd a ⟨fr,ds,h,none⟩ Q):WC X n wm rd (.cond c a b) ⟨fr,ds,h,none⟩ Q:=WC.ZVC (s:= ⟨fr,ds,h,none⟩) hc ht k
theorem WC.ZeR {c:Operand} {a b:Code} {t:Bool} {fr:Fr} {ds:List Deferred} {h:H} (hc:Xf fr c=some (.bool t)) (ht:t=false) (k:WC X n wm rd b ⟨fr,ds,h,none⟩ Q):WC X n wm rd (.cond c a b) ⟨fr,ds,h,none⟩ Q:=WC.ZVE (s:= ⟨fr,ds,h,none⟩) hc ht k
theorem WL.lift {α β:Type} {c:Code} {body:α ->(α ->Option β) ->Option β} {r:β} {F:Nat} {a:α} (hL:loop F body a=some r) (I:α ->Fs ->Prop) (init:I a s)
 (round:∀ (next:α ->Option β) a s,(∀ a' s',next a'=some r ->I a' s' ->WL X n wm rd c s' Q) ->body a next=some r ->I a s ->WC X n wm rd c s (Xh X n wm rd c Q)):WL X n wm rd c s Q:=by
 induction F generalizing a s with
 | zero=>cases hL
 | succ F ih=>exact WL.step (round _ _ _ (fun a' s' h1 h2=>ih h1 h2) hL init)
section
variable {h:H} {ev:Operand ->Option Value} {d:Option Tmp} {ty:TypeId} {p:String} {af:Array Edge} {g:Option (Nat×Bool)}
theorem Xg {x:Operand} {t:TypeId} {b o oo j:Nat} {vs:List Value} {v:Value} (ht:XE X.P t=some false) (hx:ev x=some (.pointer (some ⟨b,oo,none⟩))) (ha:At h b o vs) (ho:oo=o + j) (hv:vs[j]? =some v):
 Qw X h ev ⟨d,.load t x,ty,p,af,g⟩=some (.val v,.none):=by
 obtain⟨cs,own,z,h1,h2⟩:=ha.cell hv;subst ho;exact ZEb ht hx h1 h2
theorem QA {x:Operand} {t:TypeId} {b o oo j sz:Nat} {vs ws:List Value} (ht:XE X.P t=some true) (hs:Xo X.P t=some sz) (hx:ev x=some (.pointer (some ⟨b,oo,none⟩))) (ha:At h b o vs) (ho:oo=o + j) (hj:Nat.ble (j + sz) vs.length=true) (hv:(vs.drop j).take sz=ws):
 Qw X h ev ⟨d,.load t x,ty,p,af,g⟩=some (.val (.agg ws.toArray),.none):=by
 obtain⟨cs,own,z,h1,h2,h3⟩:=ha.part (Nl0 hj) hv;subst ho;exact ZEa ht hs hx h1 h2 h3
theorem ZWq {α:Type} {xs:List α} {v:α} {x y:Operand} {t e:TypeId} {sz b o c:Nat} {a:Option Addr} {k:Int} (hu:X.P.underlying t=some (.slice e)) (hs:Xo X.P e=some sz) (hx:ev x=some (.slice a xs.length c)) (hy:ev y=some (.int .i64 k)) (ha:a=some ⟨b,o,none⟩) (hk:ZF xs k=some v):
 Qw X h ev ⟨d,.indexAddr t x y,ty,p,af,g⟩=some (.val (.pointer (some ⟨b,o + k.toNat * sz,none⟩)),.none):=by
 obtain⟨h1,h2,_⟩:=Qt hk;subst ha;exact ZOA hu hs hx hy h1.symm h2
theorem Zug {op:BinOp} {t:TypeId} {P:Program} {x y:Operand} {a b c:Int} (h1:op= .add/\c=a + b\/op= .sub/\c=a - b\/op= .mul/\c=a * b):J2 P op t x y (.int .i64 a) (.int .i64 b)=some (.val (.int .i64 (Yd c)),.none):=Zui h1
theorem Zhr {t:TypeId} {P:Program} {x y:Operand} {a b:Int}:J2 P .add t x y (.int .i64 a) (.int .i64 b)=some (.val (.int .i64 (Yd (a + b))),.none):=Zug (.inl ⟨rfl,rfl⟩)
theorem Zx0 {t:TypeId} {P:Program} {x y:Operand} {a b:Int}:J2 P .sub t x y (.int .i64 a) (.int .i64 b)=some (.val (.int .i64 (Yd (a - b))),.none):=Zug (.inr (.inl ⟨rfl,rfl⟩))
theorem Zhq {t:TypeId} {P:Program} {x y:Operand} {a b:Int}:J2 P .mul t x y (.int .i64 a) (.int .i64 b)=some (.val (.int .i64 (Yd (a * b))),.none):=Zug (.inr (.inr ⟨rfl,rfl⟩))
end
theorem Sl.atG {α:Type} {e:Ux α} {wm:Nat} {h:H} {a:Option Addr} {c:Nat} {xs:List α} {k:Int} {x:α} {g:Bool} (s:g=true ->Sl e wm h a c xs) (hk:g=true ->ZF xs k=some x):
 ∃ i o q,g=true ->(a=some ⟨i,o,none⟩/\At h i (o + k.toNat * e.sz) (e.sh q x)/\Stb wm h i/\e.F wm h q x):=by
 cases g with
 | false=>exact⟨0,0,e.dflt,fun z=>by cases z⟩
 | true=>obtain⟨i,o,q,z⟩:= (s rfl).at_ (hk rfl);exact⟨i,o,q,fun _=>z⟩
section
variable {ops:Array Oper} {l:List Oper} {fr:Fr} {ds:List Deferred} {h:H} {d:Nat} {ty:TypeId} {p:String} {af:Array Edge} {g:Option (Nat×Bool)} {c:Bool} {QQ:Fr ->Prop}
end
abbrev WR (X:Ctx) (f:FuncId) (args:Array Value) (wm:Nat) (h:H) (R:Value ->H ->Prop):Prop:=WF X f args wm h (fun e h'=>∃ v,e= .ret v/\R v h')
theorem WF.ZQI {f:FuncId} {args:Array Value} {h:H} {v:Value} (hp:plain v=true) (k:WR X f args h.size h (fun v' _=>v'=v)):Pure X f args h v:=
 WF.pure hp (k.mono fun e h' ⟨v',h1,h2⟩=>by rw [h1,h2])
end
section
variable {X:Ctx} {n wm:Nat} {rd:Option Nat} {Q:XX ->Fs ->Prop}
variable {ops:Array Oper} {l:List Oper} {fr:Fr} {ds:List Deferred} {h:H} {d:Nat} {ty:TypeId} {p:String} {af:Array Edge} {g:Option (Nat×Bool)}
section
variable {α:Type} {e:Ux α} {lo:Nat} {h':H}
theorem Jd.nil {wm:Nat} {cs:List Value} {o:Nat} (hl:o <=cs.length):Jd e wm h cs o ([]:List α):= ⟨by simpa using hl,fun k x hk=>by simp at hk⟩
theorem Jd.ZFP {wm:Nat}:∀ (qs:List (e.KH×α)),(∀ q ∈ qs,e.F wm h q.1 q.2) ->Jd e wm h (qs.flatMap fun q=>e.sh q.1 q.2) 0 (qs.map (·.2)):=by
 intro qs hq
 have hl:∀ (qs:List (e.KH×α)),(qs.flatMap fun q=>e.sh q.1 q.2).length=qs.length * e.sz:=by
  intro qs
  induction qs with
  | nil=>simp
  | cons q qs ih=>rw [List.flatMap_cons,List.length_append,ih,e.len,List.length_cons,Nat.succ_mul];omega
 refine⟨by rw [hl];simp,?_⟩
 induction qs with
 | nil=>intro k x hk;simp at hk
 | cons q qs ih=>
   intro k x hk;cases k with
   | zero=>
     simp at hk;subst hk;refine⟨q.1,?_,hq q (by simp)⟩;rw [List.flatMap_cons,Nat.zero_mul,Nat.add_zero,List.drop_zero,List.take_append_of_le_length (by rw [e.len];exact Nat.le_refl _),List.take_of_length_le (by rw [e.len];exact Nat.le_refl _)]
   | succ k=>
     obtain⟨q',h1,h2⟩:=ih (fun q hq'=>hq q (by simp [hq'])) k x (by simpa using hk);refine⟨q',?_,h2⟩;rw [<- h1,List.flatMap_cons,List.drop_append,e.len,List.drop_of_length_le (by rw [e.len,Nat.succ_mul];omega),List.nil_append];congr 2;rw [Nat.succ_mul];omega
theorem Jd.cut {wm:Nat} {cs:List Value} {o:Nat} {xs:List α} (a:Jd e wm h cs o xs):Jd e wm h ((cs.drop o).take (xs.length * e.sz)) 0 xs:=by
 have hl:=a.len;refine⟨by rw [List.length_take,List.length_drop];omega,fun k x hk=>?_⟩;obtain⟨q,h1,h2⟩:=a.get k x hk;refine⟨q,?_,h2⟩;have hk':k < xs.length:= (Li0 hk).1;have:(k + 1) * e.sz <=xs.length * e.sz:=Nat.mul_le_mul_right _ hk';rw [Nat.succ_mul] at this;rw [<- h1,List.drop_take,List.take_take,List.drop_drop,Nat.zero_add];congr 1;omega
theorem Jd.ZQs {wm:Nat} {cs:List Value} {o:Nat} {xs:List α} (hl:o + xs.length * e.sz <=cs.length) (a:Jd e wm h ((cs.drop o).take (xs.length * e.sz)) 0 xs):Jd e wm h cs o xs:=by
 refine⟨hl,fun k x hk=>?_⟩;obtain⟨q,h1,h2⟩:=a.get k x hk;refine⟨q,?_,h2⟩;have hk':k < xs.length:= (Li0 hk).1;have:(k + 1) * e.sz <=xs.length * e.sz:=Nat.mul_le_mul_right _ hk';rw [Nat.succ_mul] at this;rw [<- h1,List.drop_take,List.take_take,List.drop_drop,Nat.zero_add];congr 1;omega
theorem Jd.append {wm:Nat} {Xm bs:List Value} {xs ys:List α} (hl:Xm.length=xs.length * e.sz) (a:Jd e wm h Xm 0 xs) (b:Jd e wm h bs 0 ys):Jd e wm h (Xm ++ bs) 0 (xs ++ ys):=by
 have h1:=a.len;have h2:=b.len;refine⟨by rw [List.length_append,List.length_append,Nat.add_mul];omega,fun k x hk=>?_⟩;rw [Nat.zero_add];by_cases hk':k < xs.length
 ·rw [List.getElem?_append_left hk'] at hk;obtain⟨q,q1,q2⟩:=a.get k x hk;refine⟨q,?_,q2⟩;have:(k + 1) * e.sz <=xs.length * e.sz:=Nat.mul_le_mul_right _ hk';rw [Nat.succ_mul] at this;rw [Nat.zero_add] at q1;rw [<- q1,List.drop_append,List.take_append_of_le_length (by rw [List.length_drop];omega)]
 ·rw [List.getElem?_append_right (by omega)] at hk;obtain⟨q,q1,q2⟩:=b.get _ x hk;refine⟨q,?_,q2⟩;have:xs.length * e.sz <=k * e.sz:=Nat.mul_le_mul_right _ (by omega);rw [Nat.zero_add] at q1;rw [<- q1,List.drop_append,List.drop_of_length_le (by omega),List.nil_append,hl,Nat.sub_mul]
theorem Jd.one {wm:Nat} {cs:List Value} {xs:List α} (hl:cs.length=xs.length * e.sz) (a:Jd e wm h cs 0 xs):cs.all Value.oneCell'=true:=by
 rw [List.all_eq_true];intro v hv;obtain⟨j,hj⟩:=List.mem_iff_getElem?.1 hv;have hjl:j < cs.length:= (Li0 hj).1;have hp:=e.pos;have hk:j / e.sz < xs.length:=Nat.div_lt_of_lt_mul (by rw [Nat.mul_comm,<- hl];exact hjl);obtain⟨q,q1,_⟩:=a.get (j / e.sz) xs[j / e.sz] (List.getElem?_eq_getElem hk);have hone:=e.one q xs[j / e.sz];rw [List.all_eq_true] at hone;refine hone v ?_;rw [<- q1,List.mem_iff_getElem?];refine⟨j % e.sz,?_⟩;rw [List.getElem?_take_of_lt (Nat.mod_lt _ hp),List.getElem?_drop,Nat.zero_add];have:j / e.sz * e.sz + j % e.sz=j:=Nat.div_add_mod' j e.sz;rw [this];exact hj
theorem ZbV (h:H) (i o m c sz:Nat):Go.Xv.reads h (.slice (some ⟨i,o,none⟩) m c) sz=bif Nat.beq m 0 then some [] else
 match h.at i with
 | .row cs _ _=>bif Nat.ble (o + m * sz) cs.length then some ((cs.drop o).take (m * sz)) else none
 | _=>none:=by cases i <;> cases o <;> rfl
theorem Src.reads {wm:Nat} {a:Option Addr} {c:Nat} {xs:List α} (s:Src e wm h a c xs):∃ vs,reads h (.slice a xs.length c) e.sz=some vs/\vs.length=xs.length * e.sz/\Jd e wm h vs 0 xs:=by
 rcases s.mem with z | ⟨i,o,cs,own,z,h1,h2,h3⟩
 ·subst z;refine⟨[],?_,by simp,Jd.nil (by simp)⟩;rcases s.nl with⟨rfl,rfl⟩ | ⟨rfl,rfl⟩ | ⟨i,o,rfl⟩
  ·rfl
  ·rfl
  ·rw [ZbV];rfl
 ·subst h1;by_cases hx:xs= []
  ·subst hx;exact⟨[],by rw [ZbV];rfl,by simp,Jd.nil (by simp)⟩
  ·have hl:=h3.len;have hpos:0 < xs.length:=List.length_pos_iff.2 hx;refine⟨(cs.drop o).take (xs.length * e.sz),?_,by rw [List.length_take,List.length_drop];omega,h3.cut⟩;rw [ZbV];have hb:Nat.beq xs.length 0=false:=by rw [Bool.eq_false_iff];intro hh;have:=Nb0 hh;omega
   simp only [hb,Cq0,h2];rw [Nm0 hl];rfl
theorem Qq.mk' {wm:Nat} {h:H} {xs:List α} {vs:List Value} {i c:Nat} (hm:xs.length <=9223372036854775807) (hlo:lo <=i) (hr:h.at i= .row vs true e.sz) (hc:xs.length <=c / 2) (hcl:(c / 2) * e.sz <=vs.length) (ha:Jd e wm h vs 0 xs):Qq e wm lo h (some ⟨i,0,none⟩) c xs:=
 ⟨hm,.inr ⟨i,0,vs,rfl,hlo,hr,hc,by omega,ha⟩⟩
theorem Qq.lower {wm lo lo':Nat} {a:Option Addr} {c:Nat} {xs:List α} (hl:lo' <=lo) (s:Qq e wm lo h a c xs):Qq e wm lo' h a c xs:=
 ⟨s.max,s.mem.imp id fun⟨i,o,cs,h1,h2,h3⟩=>⟨i,o,cs,h1,Nat.le_trans hl h2,h3⟩⟩
def Zeq (P:Program) (ts:Array TypeId) (sz JO:Nat):Prop:=∃ el z,Zab P ts=some (el,sz,JO,z)
theorem ZEi {K:Prop} {J:Value ->H ->Prop} {ts:Array TypeId} {x y:Operand} {JO:Nat} {a a2:Option Addr} {c c2:Nat} {xs ys zs:List α} (lo:Nat) (k':∀ v E h1,Qw X h (Xf fr) ⟨some d,.call {callee:= .builtin .append,args:=#[x,y],argTypes:=ts},ty,p,af,g⟩=some (.val v,E) ->E.apply wm h=some h1 ->J v h1 ->K)
 (hi:Zeq X.P ts e.sz JO) (hw:wm <=lo) (hlo:lo <=h.size) (hx:Xf fr x=some (.slice a xs.length c)) (hy:Xf fr y=some (.slice a2 ys.length c2)) (so:Qq e wm lo h a c xs) (sr:Src e wm h a2 c2 ys) (ha:app JO xs ys=some zs)
 (k:∀ a' c' h',Up lo (X8 a) h h' ->Qq e wm lo h' a' c' zs ->(∀ i,X8 a' i ->X8 a i\/i=h.size) ->J (.slice a' zs.length c') h'):K:=by
 obtain⟨rfl,hbd⟩:=Zgc ha;obtain⟨el,z,hi⟩:=hi;obtain⟨new,n1,n2,n3⟩:=sr.reads;have n4:=n3.one n2;have hpos:=e.pos;have hev:evs (Xf fr) (#[x,y]:Array Operand).toList=some [.slice a xs.length c,.slice a2 ys.length c2]:=Zb hx (Zb hy Zm);have hls:JE (.slice a2 ys.length c2)=ys.length:=rfl
 have key:∀ (v:Value) (E:Eff),QT X.P h ts (.slice a xs.length c) (.slice a2 ys.length c2)=some (v,E) ->Qw X h (Xf fr) ⟨some d,.call {callee:= .builtin .append,args:=#[x,y],argTypes:=ts},ty,p,af,g⟩=some (.val v,E):=by
  intro v E hE;rw [Uo,hev];show vE (QT X.P h ts (.slice a xs.length c) (.slice a2 ys.length c2))=_;rw [hE];rfl
 have ZTR:JO=0\/(2 * (xs.length + ys.length) + 1000) <=2 ^ 47:=by
  rcases Nat.eq_zero_or_pos JO with z | z
  ·exact .inl z
  ·right;have:(2 * (xs.length + ys.length) + 1000) * 1 <= (2 * (xs.length + ys.length) + 1000) * JO:=Nat.mul_le_mul_left _ z;rw [Nat.mul_one] at this;exact Nat.le_trans this hbd
 have hby:1 <=JO:=by
  unfold Zab at hi;split at hi
  ·split at hi
   ·split at hi
    ·rename_i sz0 by0 z0 hs hb hz;cases hc:(Nat.ble 1 sz0 && Nat.ble 1 by0 && Nat.beq z0.cells.toList.length sz0) <;> rw [hc] at hi <;> simp at hi
     obtain⟨_,_,rfl,_⟩:=hi;rw [Ba0,Ba0] at hc;exact Nl0 hc.1.2
    ·cases hi
   ·cases hi
  ·cases hi
 have hmax:(xs ++ ys).length <=9223372036854775807:=by
  rw [List.length_append];rcases ZTR with z | z <;> omega
 have hle2:(xs ++ ys).length=xs.length + ys.length:=List.length_append;rcases so.mem with⟨rfl,rfl,rfl⟩ | ⟨i,o,cs,rfl,hlo2,hrow,hc1,hc2,hel⟩
 ·-- of nothing
  by_cases hy0:ys= []
  ·subst hy0;refine k' _ (.none) _ (key (.slice none 0 0) _ ?_) rfl ?_
   ·unfold QT;rw [hi];dsimp only;rw [n1];rfl
   ·exact k none 0 h ⟨Nat.le_refl _,fun _ _ _=>rfl,fun i hb=>by obtain⟨o,hb⟩:=hb;cases hb⟩ Qq.nil (fun i hb=>by obtain⟨o,hb⟩:=hb;cases hb)
  ·have hyl:0 < ys.length:=List.length_pos_iff.2 hy0;refine k' _ (.new (.row ([] ++ new) true e.sz)) _ (key (.slice (some ⟨h.size,0,none⟩) ([] ++ ys).length (2 * ([] ++ ys).length + 1)) _ ?_) rfl ?_
   ·unfold QT;rw [hi];dsimp only;rw [n1];dsimp only;rw [hls];have b1:Nat.ble (([]:List α).length + ys.length) (0 / 2)=false:=by rw [Bool.eq_false_iff];intro q;have q:=Nl0 q;rw [List.length_nil,Nat.zero_add,Nat.zero_div] at q;omega
    rw [b1,Nm0 hbd,n4];simp only [Cq0,Bool.and_self,Cq1];have b2:reads h (.slice none ([]:List α).length 0) e.sz=some []:=rfl;rw [b2];simp
   ·refine k _ _ _ ⟨Nat.le_succ _,fun i hi _=>ZaS hi _,fun i hb=>by obtain⟨o,hb⟩:=hb;cases hb⟩ ?_ (fun i hb=>by obtain⟨o,hb⟩:=hb;cases hb;exact .inr rfl);refine Qq.mk' hmax hlo (JP h _) (by simp only [List.nil_append];omega) ?_ ?_
    ·simp only [List.nil_append];rw [n2];have:(2 * ys.length + 1) / 2=ys.length:=by omega
     rw [this];omega
    ·simp only [List.nil_append];exact n3.mono ((Up.push lo h _).fz hw)
 ·have hown:(h.at i).own=true:=by rw [hrow];rfl
  have hil:i < h.size:=QE hrow rfl;have hxl:o + xs.length * e.sz <=cs.length:=hel.len;by_cases hroom:xs.length + ys.length <=c / 2
  ·-- there is room
   by_cases hy0:ys= []
   ·subst hy0;refine k' _ (.none) _ (key (.slice (some ⟨i,o,none⟩) xs.length c) _ ?_) rfl ?_
    ·unfold QT;rw [hi];dsimp only;rw [n1];dsimp only;rw [hls,Nm0 hroom];rfl
    ·have:=k (some ⟨i,o,none⟩) c h ⟨Nat.le_refl _,fun _ _ _=>rfl,fun j hb=>by obtain⟨o',hb⟩:=hb;cases hb;exact⟨hlo2,hown⟩⟩ (by simpa using so) (fun j hb=>.inl hb)
     simpa using this
   ·have hyl:0 < ys.length:=List.length_pos_iff.2 hy0
    have hfit:o + xs.length * e.sz + new.length <=cs.length:=by
     rw [n2];have:(xs.length + ys.length) * e.sz <=c / 2 * e.sz:=Nat.mul_le_mul_right _ hroom;rw [Nat.add_mul] at this;omega
    refine k' _ (.upd i (.row (splice cs (o + xs.length * e.sz) new) true e.sz)) (h.put i (.row (splice cs (o + xs.length * e.sz) new) true e.sz)) (key (.slice (some ⟨i,o,none⟩) (xs ++ ys).length c) _ ?_) ?_ ?_
    ·unfold QT;rw [hi];dsimp only;rw [n1];dsimp only;rw [hls,Nm0 hroom];have b1:Nat.beq ys.length 0=false:=by rw [Bool.eq_false_iff];intro q;have:=Nb0 q;omega
     rw [b1,hrow];simp only [Cq1,Cq0];rw [Nm0 hfit,n4,hle2];rfl
    ·show(bif Nat.ble wm i && (h.at i).own then some (h.put i _) else none)=_;rw [hown,Nm0 (Nat.le_trans hw hlo2)];rfl
    ·have hu:Up lo (X8 (some ⟨i,o,none⟩)) h (h.put i (.row (splice cs (o + xs.length * e.sz) new) true e.sz)):=
      ⟨Nat.le_refl _,fun j _ hn=>Jy (fun q=>hn ⟨o,by rw [q]⟩) _,fun j hb=>by obtain⟨o',hb⟩:=hb;cases hb;exact⟨hlo2,hown⟩⟩
     refine k _ _ _ hu ⟨hmax,.inr ⟨i,o,_,rfl,hlo2,XG hil _,by rw [hle2];exact hroom,?_,?_⟩⟩ (fun j hb=>.inl hb)
     ·simp only [splice,List.length_append,List.length_take,List.length_drop];omega
     ·refine Jd.ZQs ?_ (Jd.mono (hu.fz hw) ?_)
      ·simp only [splice,List.length_append,List.length_take,List.length_drop,Nat.add_mul,<- n2];omega
      ·have e1:((splice cs (o + xs.length * e.sz) new).drop o).take ((xs ++ ys).length * e.sz)= (cs.drop o).take (xs.length * e.sz) ++ new:=by
        have l1:(cs.take (o + xs.length * e.sz)).length=o + xs.length * e.sz:=by rw [List.length_take];omega
        unfold splice;rw [List.append_assoc,List.drop_append_of_le_length (by omega),hle2,Nat.add_mul,<- n2,List.take_append];have l2:((cs.take (o + xs.length * e.sz)).drop o).length=xs.length * e.sz:=by rw [List.length_drop,l1];omega
        rw [l2,List.take_of_length_le (by rw [l2];omega),List.drop_take];congr 1
        ·congr 1;omega
        ·have:xs.length * e.sz + new.length - xs.length * e.sz=new.length:=by omega
         rw [this,List.take_append_of_le_length (Nat.le_refl _),List.take_of_length_le (Nat.le_refl _)]
       rw [e1];exact Jd.append (by rw [List.length_take,List.length_drop];omega) hel.cut n3
  ·-- it grows
   have b0:Nat.ble (xs.length + ys.length) (c / 2)=false:=by rw [Bool.eq_false_iff];intro q;exact hroom (Nl0 q)
   have hold:reads h (.slice (some ⟨i,o,none⟩) xs.length c) e.sz=some ((cs.drop o).take (xs.length * e.sz)):=by
    rw [ZbV];cases hb:Nat.beq xs.length 0 with
    | true=>
      have:=Nb0 hb;rw [this];simp
    | false=>
      simp only [Cq0,hrow];rw [Nm0 hxl];rfl
   have hol:((cs.drop o).take (xs.length * e.sz)).length=xs.length * e.sz:=by rw [List.length_take,List.length_drop];omega
   have hrl:((cs.drop o).take (xs.length * e.sz) ++ new).length= (xs ++ ys).length * e.sz:=by rw [List.length_append,hol,n2,hle2,Nat.add_mul]
   have hcap:(2 * (xs ++ ys).length + 1) / 2= (xs ++ ys).length:=by omega
   cases ZGs:Nat.beq (c % 2) 0 with
   | true=>
     refine k' _ (.new (.row ((cs.drop o).take (xs.length * e.sz) ++ new) true e.sz)) _ (key (.slice (some ⟨h.size,0,none⟩) (xs ++ ys).length (2 * (xs ++ ys).length + 1)) _ ?_) rfl ?_
     ·unfold QT;rw [hi];dsimp only;rw [n1];dsimp only;rw [hls,b0,Nm0 hbd,n4,hold,ZGs,hle2];rfl
     ·refine k _ _ _ ⟨Nat.le_succ _,fun j hj _=>ZaS hj _,fun j hb=>by obtain⟨o',hb⟩:=hb;cases hb;exact⟨hlo2,hown⟩⟩ ?_ (fun j hb=>by obtain⟨o',hb⟩:=hb;cases hb;exact .inr rfl);refine Qq.mk' hmax hlo (JP h _) (by omega) (by rw [hcap,hrl];exact Nat.le_refl _) ?_;exact(Jd.append hol hel.cut n3).mono ((Up.push lo h _).fz hw)
   | false=>
     refine k' _ (.grow i (.row ((cs.drop o).take (xs.length * e.sz) ++ new) true e.sz)) ((h.put i .dead).push (.row ((cs.drop o).take (xs.length * e.sz) ++ new) true e.sz)) (key (.slice (some ⟨h.size,0,none⟩) (xs ++ ys).length (2 * (xs ++ ys).length + 1)) _ ?_) ?_ ?_
     ·unfold QT;rw [hi];dsimp only;rw [n1];dsimp only;rw [hls,b0,Nm0 hbd,n4,hold,ZGs];simp only [Cq0,Bool.and_self,Cq1];rw [hrow];dsimp only;rw [Nat.beq_refl,hle2];rfl
     ·show(bif Nat.ble wm i && (h.at i).own && true then some ((h.put i .dead).push _) else none)=_;rw [hown,Nm0 (Nat.le_trans hw hlo2)];rfl
     ·have hu:Up lo (X8 (some ⟨i,o,none⟩)) h ((h.put i .dead).push (.row ((cs.drop o).take (xs.length * e.sz) ++ new) true e.sz)):=
       ⟨Nat.le_succ _,fun j hj hn=>by rw [ZaS (by simpa using hj),Jy (fun q=>hn ⟨o,by rw [q]⟩)],fun j hb=>by obtain⟨o',hb⟩:=hb;cases hb;exact⟨hlo2,hown⟩⟩
      refine k _ _ _ hu ?_ (fun j hb=>by obtain⟨o',hb⟩:=hb;cases hb;exact .inr rfl);refine Qq.mk' hmax hlo (by have:=JP (h.put i .dead) (.row ((cs.drop o).take (xs.length * e.sz) ++ new) true e.sz);simpa using this) (by omega) (by rw [hcap,hrl];exact Nat.le_refl _) ?_;exact(Jd.append hol hel.cut n3).mono (hu.fz hw)
end
theorem X8.none {i:Nat}:¬ X8 Option.none i:=fun⟨_,h⟩=>by cases h
section
variable {α:Type} {e:Ux α} {lo:Nat} {h':H}
end
theorem Uq.frozen {ρ:Ren} {w:World} {b d:Nat} {l:Nat×Nat} {cs:List Value} {o:Bool} {z z':Nat} (h:Uq ρ w b d l (.row cs o z)):Uq ρ w b d l (.row cs false z'):=by
 obtain⟨cc,el,fz,a,_,c,q⟩:=h;exact⟨cc,el,fz,a,(fun e=>by cases e),c,q⟩
theorem Rel.freeze {ρ:Ren} {h:H} {w:World} {i:Nat} {cs:List Value} {o:Bool} {z:Nat} (hr:h.at i= .row cs o z) (r:Rel ρ h w):Rel ρ (h.put i (.row cs false 0)) w:=by
 have hi:=QE hr rfl
 have hat:∀ j,(h.put i (.row cs false 0)).at j=if j=i then .row cs false 0 else h.at j:=fun j=>by
  by_cases e:j=i
  ·subst e;rw [XG hi,if_pos rfl]
  ·rw [Jy e,if_neg e]
 refine⟨r.dom,fun j b d e=>?_,fun j k b d d' e1 e2 ho hl=>?_⟩
 ·rw [hat];have:=r.obj j b d e;split
  ·rename_i e2;subst e2;rw [hr] at this;exact this.frozen
  ·exact this
 ·rw [hat] at ho hl;refine r.inj j k b d d' e1 e2 ?_ ?_
  ·split at ho
   ·cases ho
   ·exact ho
  ·split at hl
   ·rename_i e3;subst e3;rw [hr];rfl
   ·exact hl
theorem Stp.freeze {wm:Nat} {ρ ρ':Ren} {h h':H} {w w':World} {i:Nat} {cs:List Value} {z:Nat} (hw:wm <=i) (hr:h.at i= .row cs true z) (a:Stp wm ρ (h.put i (.row cs false 0)) w ρ' h' w'):Stp wm ρ h w ρ' h' w':=by
 have hi:=QE hr rfl
 have hat:∀ j,(h.put i (.row cs false 0)).at j=if j=i then .row cs false 0 else h.at j:=fun j=>by
  by_cases e:j=i
  ·subst e;rw [XG hi,if_pos rfl]
  ·rw [Jy e,if_neg e]
 have hown:∀ j,((h.put i (.row cs false 0)).at j).own=true ->(h.at j).own=true:=fun j e=>by
  rw [hat] at e;split at e
  ·cases e
  ·exact e
 refine⟨a.ext,a.size,fun j hj=>?_,fun j hj e=>hown j (a.own j hj e),fun j hj e=>?_,a.os,a.tape,a.output,a.Qv,fun b hb hno=>a.frame b hb fun j d h1 h2 h3=>hno j d h1 h2 (hown j h3),fun j b d e e'=>?_⟩
 ·rw [a.keep j hj,hat,if_neg (by omega)]
 ·have:=a.live j hj e;rw [hat] at this;split at this
  ·rename_i e2;subst e2;rw [hr];rfl
  ·exact this
 ·obtain⟨h1,h2⟩:=a.UN j b d e e';exact⟨h1,h2.imp id fun⟨k,d',q1,q2,q3⟩=>⟨k,d',q1,q2,hown k q3⟩⟩
theorem WC.Zw5 {cd:Code} {i:Nat} {cs:List Value} {z:Nat} (hw:wm <=i) (hr:h.at i= .row cs true z) (k:WC X n wm rd cd ⟨fr,ds,h.put i (.row cs false 0),none⟩ Q):WC X n wm rd cd ⟨fr,ds,h,none⟩ Q:=by
 obtain⟨e,s',hq,hk⟩:=k;refine⟨e,s',hq,fun ρ a w F Ye hi hF=>wpIn_mono (hk ρ a w F (by simpa using Ye) ⟨hi.rel.freeze hr,hi.fr,hi.ds⟩ hF) ?_⟩;rintro e' a' w' ⟨ρ',h1,h2,h3⟩;exact⟨ρ',h1,h2,h3.freeze hw hr⟩
theorem WC.freeze {cd:Code} {α:Type} {e:Ux α} {lo:Nat} {a:Option Addr} {c:Nat} {xs:List α} (hw:wm <=lo) (so:Qq e wm lo h a c xs) (k:∀ h',Up lo (X8 a) h h' ->Sl e wm h' a c xs ->WC X n wm rd cd ⟨fr,ds,h',none⟩ Q):WC X n wm rd cd ⟨fr,ds,h,none⟩ Q:=by
 rcases so.mem with⟨rfl,rfl,rfl⟩ | ⟨i,o,cs,rfl,h1,h2,h3,h4,h5⟩
 ·exact k h ⟨Nat.le_refl _,fun _ _ _=>rfl,fun i hb=>by obtain⟨o,hb⟩:=hb;cases hb⟩ Sl.nil
 ·have hu:Up lo (X8 (some ⟨i,o,none⟩)) h (h.put i (.row cs false 0)):=
   ⟨Nat.le_refl _,fun j _ hn=>Jy (fun q=>hn ⟨o,by rw [q]⟩) _,fun j hb=>by obtain⟨o',hb⟩:=hb;cases hb;exact⟨h1,by rw [h2];rfl⟩⟩
  exact WC.Zw5 (Nat.le_trans hw h1) h2 (k _ hu ⟨so.max,so.cap,so.nl,.inr ⟨i,o,cs,false,0,rfl,XG (QE h2 rfl) _,.inr rfl,h5.mono (hu.fz hw)⟩⟩)
theorem XK.weaken {f:FuncId} {args:Array Value} {wm wm':Nat} {h h':H} {e:Zad} (hw:wm' <=wm) (hl:wm <=h.size) (j:XK X (.call f args wm h) (.fin e h')):XK X (.call f args wm' h) (.fin e h'):=fun ρ args' w _ hr hv=>
 (j ρ args' w hl hr hv).mono fun _ _ ⟨ρ',h1,h2,h3⟩=>⟨ρ',h1,h2,h3.weaken hw⟩
end
section
variable {X:Ctx} {P:Program}
theorem Zei {α β:Type} (s:Sem α) (f:α ->Sem β):Yt P (s >>=f)=match Yt P s with
 | some (.ok a)=>Yt P (f a)
 | some (.error v)=>some (.error v)
 | none=>none:=by
 induction s with
 | pure a=>rfl
 | program k ih=>exact ih P
 | halt x=>cases x <;> rfl
 | load | store | new | shape | freeze | frozen | getObj | setObj | choose | sys | mark=>rfl
theorem prb {α β:Type} {s:Sem α} {f:α ->Sem β} {a:α} (h:Yt P s=some (.ok a)):Yt P (s >>=f)=Yt P (f a):=by rw [Zei,h]
theorem Qx {t:TypeId} {u:TypeDesc} (h:P.underlying t=some u):Yt P (underlying t)=some (.ok u):=by
 show Yt P (match P.underlying t with | some d=>pure d | none=>stuck "no such type")=_;rw [h];rfl
theorem eq_int {t:TypeId} {k:IntKind} {a b:Int} {d:Nat} (hu:P.underlying t=some (.int k)):Yt P (Op.equalIn (d + 1) t (.int k a) (.int k b))=some (.ok (a==b)):=by
 unfold Op.equalIn;rw [prb (Qx hu)];show Yt P (if k=k then pure (a==b) else stuck "==: kinds differ")=_;rw [if_pos rfl];rfl
theorem ZHc {t:TypeId} {a b:Bool} {d:Nat} (hu:P.underlying t=some .bool):Yt P (Op.equalIn (d + 1) t (.bool a) (.bool b))=some (.ok (a==b)):=by
 unfold Op.equalIn;rw [prb (Qx hu)];rfl
theorem U6 {t:TypeId} {cs:Array Value} {off:Nat} {v:Value} (ht:XE P t=some false) (hv:cs[off]? =some v):Yt P (part t cs off)=some (.ok v):=by
 unfold XE at ht;unfold part isAgg;cases hu:P.underlying t with
 | none=>rw [hu] at ht;cases ht
 | some u=>
   rw [hu] at ht;rw [prb (a:=false)]
   ·simp only [hv];rfl
   ·rw [prb (Qx hu)];cases u <;> first | rfl | (cases ht;done)
def FEq (P:Program) (d:Nat) (xs ys:Array Value):List Field ->List Bool ->Prop
 | [],[]=>True
 | f::fl,b::bs=>(f.name ≠ "_" /\∃ v w,Yt P (part f.type xs f.offset)=some (.ok v)/\Yt P (part f.type ys f.offset)=some (.ok w)/\Yt P (Op.equalIn d f.type v w)=some (.ok b))/\FEq P d xs ys fl bs
 | _,_=>False
theorem ZGS {d:Nat} {xs ys:Array Value}:∀ {fl:List Field} {bs:List Bool},FEq P d xs ys fl bs ->
 Yt P (forIn fl ((none:Option Bool),()) fun f _=>if f.name ≠ "_" then do
  let a <- part f.type xs f.offset
  let b <- part f.type ys f.offset
  let r <- Op.equalIn d f.type a b
  if(!r)=true then pure (ForInStep.done (some false,())) else pure (ForInStep.yield (none,()))
  else pure (ForInStep.yield (none,())):Sem (Option Bool×Unit))=some (.ok (bif bs.all id then none else some false,())):=by
 intro fl
 induction fl with
 | nil=>
   intro bs h;cases bs with
   | nil=>rfl
   | cons=>exact h.elim
 | cons f fl ih=>
   intro bs h;cases bs with
   | nil=>exact h.elim
   | cons b bs=>
     obtain⟨⟨h1,v,w,h2,h3,h4⟩,h5⟩:=h;rw [List.forIn_cons,if_pos h1,Zei,prb h2,prb h3,prb h4];cases b with
     | false=>rfl
     | true=>
       have:=ih h5;have e:(true::bs).all id=bs.all id:=by simp
       rw [e,<- this];rfl
theorem Zxw {t:TypeId} {fs:Array Field} {xs ys:Array Value} {d:Nat} {bs:List Bool} (hu:P.underlying t=some (.struct fs)) (hst:P.stoodInHeld t=false) (hf:FEq P d xs ys fs.toList bs):
 Yt P (Op.equalIn (d + 1) t (.agg xs) (.agg ys))=some (.ok (bs.all id)):=by
 unfold Op.equalIn;rw [prb (Qx hu)];show Yt P (if P.stoodInHeld t=true then _ else _)=_;rw [hst,if_neg (by simp)];dsimp only;have:=ZGS hf;rw [<- Array.forIn_toList];rw [prb this];cases bs.all id <;> rfl
theorem Zrp {t:TypeId} {x y:Operand} {xs ys:Array Value} {op:BinOp} (hop:op= .eql\/op= .neq) (hg:P.eqGuardType P.depth t=false):Yt P (eqGuard op t x y (.agg xs) (.agg ys))=some (.ok ()):=by
 rcases hop with rfl | rfl
 ·show Yt P (if(!P.eqGuardType P.depth t)=true then _ else _)=_;rw [hg];rfl
 ·show Yt P (if(!P.eqGuardType P.depth t)=true then _ else _)=_;rw [hg];rfl
def ZWZ (P:Program) (t:TypeId) (xs ys:List Value) (b:Bool):Prop:=P.eqGuardType P.depth t=false/\Yt P (Op.equal t (.agg xs.toArray) (.agg ys.toArray))=some (.ok b)
theorem ZEw {t:TypeId} {x y:Operand} {xs ys:List Value} {b:Bool} (h:ZWZ P t xs ys b) (h1:xs.all scalar=true) (h2:ys.all scalar=true):J2 P .neq t x y (.agg xs.toArray) (.agg ys.toArray)=some (.val (.bool (!b)),.none):=by
 have hp:(plain (.agg xs.toArray) && plain (.agg ys.toArray))=true:=by
  have e1:plain (.agg xs.toArray)=xs.all scalar:=rfl;have e2:plain (.agg ys.toArray)=ys.all scalar:=rfl;rw [e1,e2,h1,h2];rfl
 unfold J2;rw [hp,Cq1];unfold ZaH;rw [prb (Zrp (.inr rfl) h.1)]
 have:Yt P (binOp .neq t (.agg xs.toArray) (.agg ys.toArray))=some (.ok (.bool (!b))):=by
  show Yt P (do pure (Value.bool (!(<- Op.equal t (.agg xs.toArray) (.agg ys.toArray)))):Sem Value)=_;rw [prb h.2];rfl
 rw [this];rfl
theorem Zaj {h:H} {t:TypeId} {b o oo j:Nat} {vs:List Value} {v:Value} (ht:XE P t=some false) (ha:At h b o vs) (ho:oo=o + j) (hv:vs[j]? =some v):KX P h t (.pointer (some ⟨b,oo,none⟩))=some v:=by
 obtain⟨cs,own,z,h1,h2⟩:=ha.cell hv;subst ho;exact Slc.load h1 ht h2
theorem Zd5 {h:H} {t:TypeId} {b o oo j sz:Nat} {vs ws:List Value} (ht:XE P t=some true) (hs:Xo P t=some sz) (ha:At h b o vs) (ho:oo=o + j) (hj:Nat.ble (j + sz) vs.length=true) (hv:(vs.drop j).take sz=ws):KX P h t (.pointer (some ⟨b,oo,none⟩))=some (.agg ws.toArray):=by
 obtain⟨cs,own,z,h1,h2,h3⟩:=ha.part (Nl0 hj) hv;subst ho;exact ZmF ht hs h1 h2 h3
theorem Zv {fr:Fr} {h:H}:ZeS P fr h []=some []:=rfl
theorem Yr {fr:Fr} {h:H} {t:Nat} {v:Value} {rs:List ResultVar} {vs:List Value} (hv:Xf fr (.tmp t)=some v) (hr:ZeS P fr h rs=some vs):ZeS P fr h (.tmp t::rs)=some (v::vs):=by
 have e:ZrW P fr h (.tmp t)=some v:=hv;simp only [ZeS,e,hr]
theorem J5 {fr:Fr} {h:H} {a t:Nat} {p v:Value} {rs:List ResultVar} {vs:List Value} (hp:fr.at a=p) (hv:KX P h t p=some v) (hr:ZeS P fr h rs=some vs):ZeS P fr h (.cell a t::rs)=some (v::vs):=by
 have e:ZrW P fr h (.cell a t)=some v:=by show KX P h t (fr.at a)=some v;rw [hp];exact hv
 simp only [ZeS,e,hr]
theorem Z8.Uu {fn:Func} {R:Value ->H ->Prop} {fr:Fr} {h:H} {wr:Option Nat} {rs:List ResultVar} {v:Value} (hr:fn.results.toList=rs) (hv:ZeS X.P fr h rs=some [v]) (k:R v h):Z8 X fn (fun e h'=>∃ v,e= .ret v/\R v h') .ret ⟨fr,[],h,wr⟩:=by
 refine⟨⟨rfl,v,?_,v,rfl,k⟩⟩;unfold Ua;dsimp only;rw [hr,hv]
theorem Z8.gen {fn:Func} {R:Value ->H ->Prop} {fr:Fr} {h:H} {wr:Option Nat} {rs:List ResultVar} {vs:List Value} (hr:fn.results.toList=rs) (hv:ZeS X.P fr h rs=some vs) (hl:Nat.beq vs.length 1=false) (k:R (.tuple vs.toArray) h):Z8 X fn (fun e h'=>∃ v,e= .ret v/\R v h') .ret ⟨fr,[],h,wr⟩:=by
 refine⟨⟨rfl,_,?_,_,rfl,k⟩⟩;unfold Ua;dsimp only;rw [hr,hv]
 match vs,hl with
 | [],_=>rfl
 | [_],h=>cases h
 | _::_::_,_=>rfl
theorem Z8.Xx {fn:Func} {R:Zad ->H ->Prop} {s:Fs} (k:Z8 X fn R .ret s):Z8 X fn R .normal s:= ⟨k.out⟩
def Ux.Flat {α:Type} (e:Ux α):Prop:=∀ wm h p x,e.F wm h p x
theorem Qq.flat {α:Type} {e:Ux α} {wm wm' lo:Nat} {h:H} {a:Option Addr} {c:Nat} {xs:List α} (f:e.Flat) (s:Qq e wm lo h a c xs):Qq e wm' lo h a c xs:=
 ⟨s.max,s.mem.imp id fun⟨i,o,cs,h1,h2,h3,h4,h5,h6⟩=>⟨i,o,cs,h1,h2,h3,h4,h5,⟨h6.len,fun k x hk=>let⟨q,q1,_⟩:=h6.get k x hk;⟨q,q1,f _ _ _ _⟩⟩⟩⟩
theorem Sl.cases {α:Type} {e:Ux α} {wm:Nat} {h:H} {a:Option Addr} {c:Nat} {xs:List α} (s:Sl e wm h a c xs):(a=none/\c=0/\xs= [])\/∃ q,a=some q:=by
 rcases s.nl with⟨h1,h2⟩ | ⟨h1,_⟩ | ⟨i,o,h1⟩
 ·refine .inl ⟨h1,h2,?_⟩;rcases s.mem with z | ⟨i,o,cs,own,z,q1,_⟩
  ·exact z
  ·rw [h1] at q1;cases q1
 ·exact .inr ⟨_,h1⟩
 ·exact .inr ⟨_,h1⟩
theorem ZmK {t e:TypeId} {x y:Operand} (hu:P.underlying t=some (.slice e)):J2 P .eql t x y (.slice none 0 0) (.slice none 0 0)=some (.val (.bool true),.none):=by
 have hp:(plain (.slice none 0 0) && plain (.slice none 0 0))=true:=rfl;unfold J2;rw [hp,Cq1];unfold ZaH;have h1:Yt P (eqGuard .eql t x y (.slice none 0 0) (.slice none 0 0))=some (.ok ()):=rfl;rw [prb h1]
 have:Yt P (binOp .eql t (.slice none 0 0) (.slice none 0 0))=some (.ok (.bool true)):=by
  show Yt P (do pure (Value.bool (<- Op.equal t (.slice none 0 0) (.slice none 0 0))):Sem Value)=_
  have h2:Yt P (Op.equal t (.slice none 0 0) (.slice none 0 0))=some (.ok true):=by
   unfold Op.equal;show Yt P (Op.equalIn (9999 + 1) t _ _)=_;unfold Op.equalIn;rw [prb (Qx hu)];rfl
  rw [prb h2];rfl
 rw [this];rfl
theorem ZmL {t e:TypeId} {x y:Operand} {q:Addr} {n c:Nat} (hu:P.underlying t=some (.slice e)):J2 P .eql t x y (.slice (some q) n c) (.slice none 0 0)=some (.val (.bool false),.none):=by
 have hp:(plain (.slice (some q) n c) && plain (.slice none 0 0))=false:=rfl;unfold J2;rw [hp,Cq0];have:ZfG P t (.slice (some q) n c) (.slice none 0 0)=some false:=by unfold ZfG;rw [hu];rfl
 rw [this]
theorem ZEg {α:Type} (JO:Nat) (h:1000 * JO <=2 ^ 47):app JO ([]:List α) []=some []:=Zuc (by simpa using h)
theorem Zkx {op:BinOp} {t:TypeId} {x y:Operand} {a b r:Bool} (hu:P.underlying t=some .bool) (h:op= .eql/\r= (a==b)\/op= .neq/\r= (a !=b)):J2 P op t x y (.bool a) (.bool b)=some (.val (.bool r),.none):=by
 have hp:(plain (.bool a) && plain (.bool b))=true:=rfl;have h2:Yt P (Op.equal t (.bool a) (.bool b))=some (.ok (a==b)):=ZHc (d:=9999) hu;unfold J2;rw [hp,Cq1];unfold ZaH;rcases h with⟨rfl,rfl⟩ | ⟨rfl,rfl⟩
 ·have h1:Yt P (eqGuard .eql t x y (.bool a) (.bool b))=some (.ok ()):=rfl;rw [prb h1]
  have:Yt P (binOp .eql t (.bool a) (.bool b))=some (.ok (.bool (a==b))):=by
   show Yt P (do pure (Value.bool (<- Op.equal t (.bool a) (.bool b))):Sem Value)=_;rw [prb h2];rfl
  rw [this];rfl
 ·have h1:Yt P (eqGuard .neq t x y (.bool a) (.bool b))=some (.ok ()):=rfl;rw [prb h1]
  have:Yt P (binOp .neq t (.bool a) (.bool b))=some (.ok (.bool (a !=b))):=by
   show Yt P (do pure (Value.bool (!(<- Op.equal t (.bool a) (.bool b)))):Sem Value)=_;rw [prb h2];rfl
  rw [this];rfl
theorem Zx4 {t:TypeId} {x y:Operand} {a b:Bool} (hu:P.underlying t=some .bool):J2 P .eql t x y (.bool a) (.bool b)=some (.val (.bool (a==b)),.none):=Zkx hu (.inl ⟨rfl,rfl⟩)
theorem Zx3 {t:TypeId} {x y:Operand} {a b:Bool} (hu:P.underlying t=some .bool):J2 P .neq t x y (.bool a) (.bool b)=some (.val (.bool (a !=b)),.none):=Zkx hu (.inr ⟨rfl,rfl⟩)
end
section
abbrev SfT:=List (Nat×Nat×Nat×(Qj ->Prop))×List (Nat×List Nat)
variable {X:Ctx} {n wm:Nat} {rd:Option Nat} {ops:Array Oper} {l:List Oper} {fr:Fr} {ds:List Deferred} {h h1:H} {ty:TypeId} {p:String} {af:Array Edge} {g:Option (Nat×Bool)} {m:Nat} {sf:SfT}
def ZJU (A:Qj):Prop:=∀ (ρ ρ':Ren) (w:World) (b d:Nat) (l:Nat×Nat),Uq ρ w b d l A ->Uq ρ' w b d l A
def Prm (P:Program) (wm:Nat) (rd:Option Nat) (ops:Array Oper) (o:Oper) (fr:Fr) (h:H) (v:Value) (x:Nat) (C:Qj ->Prop):Prop:=
 x < h.size/\ZJU (h.at x)/\JK P wm rd ops o (fun _=>False) fr h v h/\∀ A,C A ->ZJU A/\JK P wm rd ops o (fun _=>False) fr (h.put x A) v (h.put x A)
variable {Q:Fr ->H ->Prop}
theorem ZWV (wm:Nat) (t:Option Nat):MOf false wm t=fun x=>t=some x:=by funext x;unfold MOf;simp
def SU (X:Ctx) (wm:Nat) (o:Oper) (fr:Fr) (h:H) (h1:H) (tg:Bool):Prop:=∃ E,Qw X h (Xf fr) o=some (.skip,E)/\E.apply wm h=some h1/\(tg=false ->E.tgt=none)
theorem ZDR {ps:List Nat} {i j:Nat} (h:i ≠ j):comp ps i j=comp ps j i:=by
 unfold comp;rcases Nat.lt_or_ge i j with z | z
 ·have h1:Nat.blt i j=true:=by rw [Nat.blt_eq];exact z
  have h2:Nat.blt j i=false:=by rw [Bool.eq_false_iff];intro q;rw [Nat.blt_eq] at q;omega
  rw [h1,h2];rfl
 ·have h1:Nat.blt j i=true:=by rw [Nat.blt_eq];omega
  have h2:Nat.blt i j=false:=by rw [Bool.eq_false_iff];intro q;rw [Nat.blt_eq] at q;omega
  rw [h1,h2];rfl
theorem Zzh {x y:Operand} {t:TypeId} {b o z sz:Nat} {cs cs' vs:List Value} {v:Value} {d:Option Tmp} (hs:Xo X.P t=some sz) (hx:Xf fr x=some (.pointer (some ⟨b,o,none⟩))) (hy:Xf fr y=some v)
 (hr:h.at b= .row cs true z) (hb:wm <=b) (hvs:v.cells.toList=vs) (hn:vs.length=sz) (hl:o + sz <=cs.length) (hc:vs.all Value.oneCell'=true) (hv:splice cs o vs=cs'):
 Qw X h (Xf fr) ⟨d,.store t x y,ty,p,af,g⟩=some (.skip,.upd b (.row cs' true z))/\(Eff.upd b (.row cs' true z)).apply wm h=some (h.put b (.row cs' true z)):=by
 subst hvs;refine⟨?_,?_⟩
 ·rw [ZxU,hx,hy];dsimp only
  have:Zhk X.P h t (.pointer (some ⟨b,o,none⟩)) v=some (.upd b (.row cs' true z)):=by
   unfold Zhk;rw [hs];dsimp only;rw [hr];dsimp only;have h1:Nat.beq v.cells.toList.length sz=true:=by rw [hn];exact Nat.beq_refl sz
   have h2:Nat.ble (o + sz) cs.length=true:=Nm0 hl;rw [h1,h2,hc,hv];rfl
  rw [this];rfl
 ·show(bif Nat.ble wm b && (h.at b).own then some (h.put b (.row cs' true z)) else none)=_;rw [hr];have:Nat.ble wm b=true:=Nm0 hb;rw [this];rfl
theorem J6 {d:Option Tmp} {t:TypeId} {ps:Array (Nat×Operand)} {zs cs':List Value} {pl:List (Nat×Nat)} {pvs:List (Nat×Value)} {ev:Operand ->Option Value} (hb:Zcr X.P t zs pl) (hp:evp ev ps.toList=some pvs) (ho:ZeI (fun i=>pl[i]?) zs.length pvs=true) (hv:ZjJ (fun i=>(pl.getD i (0,0)).1) zs pvs=cs'):
 Qw X h ev ⟨d,.build t ps,ty,p,af,g⟩=some (.val (.agg cs'.toArray),.none):=by
 subst hv;obtain⟨z,fs,h1,rfl,h3,h4⟩:=hb;show(match evp ev ps.toList with | some ps=>vN (Zkw X.P t ps) | none=>none)=_;rw [hp];dsimp only;unfold Zkw;rw [h1,h3];dsimp only;rw [h4];dsimp only;rw [Zkv (off:=fun i=>(pl.getD i (0,0)).1) (fun i p e=>by rw [List.getD_eq_getElem?_getD,e];rfl) _ _ ho]
 rfl
section
variable {α:Type} {e:Ux α}
end
end
section
variable {X:Ctx} {P:Program} {κ ν:Type} [DecidableEq κ]
structure ZkC (P:Program) (kt:TypeId) (kv:κ ->Value):Prop where
 pl:∀ x,plain (kv x)=true
 ok:∀ e x,Zcu P e kt (kv x)=true
 same:∀ x,Instr.sameBits 10000 (kv x) (kv x)=true
 eq:∀ x y,Yt P (Op.equal kt (kv x) (kv y))=some (.ok (decide (x=y)))
 kW:∃ u,P.underlying kt=some u/\((∀ x y,Instr.sameNow u (kv x) (kv y)=none)\/∀ x y,Instr.sameNow u (kv x) (kv y)=some (decide (x=y)))
def Wj (kv:κ ->Value) (vv:ν ->Value) (l:List (κ×ν)) (bs:List Nat):List MapEntry:=List.zipWith (fun p b=>⟨kv p.1,vv p.2,b⟩) l bs
variable {kt:TypeId} {kv:κ ->Value} {vv:ν ->Value}
theorem Zq8 (K:ZkC P kt kv) (k:κ):∀ (l:List (κ×ν)) (bs:List Nat) (i:Nat),bs.length=l.length ->Yt P (Instr.findAsking kt (kv k) (Wj kv vv l bs) i)=some (.ok ((Zaw l k).map fun q=>(i + q.1,vv q.2))):=by
 intro l
 induction l with
 | nil=>intro bs i _;rfl
 | cons p l ih=>
   intro bs i hb;cases bs with
   | nil=>cases hb
   | cons b bs=>
     show Yt P (do if <- Op.equal kt (kv k) (kv p.1) then pure (some (i,vv p.2)) else Instr.findAsking kt (kv k) (Wj kv vv l bs) (i + 1))=_;rw [prb (K.eq k p.1)];unfold Zaw;by_cases e:p.1=k
     ·rw [if_pos e,decide_eq_true e.symm];rfl
     ·rw [if_neg e,decide_eq_false (fun z=>e z.symm)];show Yt P (Instr.findAsking kt (kv k) (Wj kv vv l bs) (i + 1))=_;rw [ih bs (i + 1) (by simpa using hb)];cases Zaw l k with
      | none=>rfl
      | some q=>simp [Nat.add_assoc,Nat.add_comm 1]
theorem ZDd {u:TypeDesc} (hs:∀ x y,Instr.sameNow u (kv x) (kv y)=some (decide (x=y))) (k:κ):∀ (l:List (κ×ν)) (bs:List Nat) (i:Nat),bs.length=l.length ->Instr.findNow u (kv k) (Wj kv vv l bs) i=some ((Zaw l k).map fun q=>(i + q.1,vv q.2)):=by
 intro l
 induction l with
 | nil=>intro bs i _;rfl
 | cons p l ih=>
   intro bs i hb;cases bs with
   | nil=>cases hb
   | cons b bs=>
     show(match Instr.sameNow u (kv k) (kv p.1) with | some true=>some (some (i,vv p.2)) | some false=>Instr.findNow u (kv k) (Wj kv vv l bs) (i + 1) | none=>none)=_;rw [hs];unfold Zaw;by_cases e:p.1=k
     ·rw [if_pos e,decide_eq_true e.symm];rfl
     ·rw [if_neg e,decide_eq_false (fun z=>e z.symm)];show Instr.findNow u (kv k) (Wj kv vv l bs) (i + 1)=_;rw [ih bs (i + 1) (by simpa using hb)];cases Zaw l k with
      | none=>rfl
      | some q=>simp [Nat.add_assoc,Nat.add_comm 1]
theorem Zku (K:ZkC P kt kv) (k:κ) (l:List (κ×ν)) (bs:List Nat) (hb:bs.length=l.length):ZhK P kt (kv k) (Wj kv vv l bs)=some ((Zaw l k).map fun q=>(q.1,vv q.2)):=by
 obtain⟨u,hu,hk⟩:=K.kW;unfold ZhK Instr.findKey;rw [prb (Qx hu)];rcases hk with hk | hk
 ·cases l with
  | nil=>cases bs with
    | nil=>rfl
    | cons=>cases hb
  | cons p l=>
    cases bs with
    | nil=>cases hb
    | cons b bs=>
      have:Instr.findNow u (kv k) (Wj kv vv (p::l) (b::bs)) 0=none:=by
       show(match Instr.sameNow u (kv k) (kv p.1) with | some true=>some (some (0,vv p.2)) | some false=>Instr.findNow u (kv k) (Wj kv vv l bs) (0 + 1) | none=>none)=_;rw [hk]
      rw [this];dsimp only;rw [Zq8 K k (p::l) (b::bs) 0 hb];simp
 ·rw [ZDd hk k l bs 0 hb];simp only [Nat.zero_add];rfl
omit [DecidableEq κ] in
theorem Zqh {l l2:List (κ×ν)} {bs b2:List Nat} (hb:bs.length=l.length):Wj kv vv (l ++ l2) (bs ++ b2)=Wj kv vv l bs ++ Wj kv vv l2 b2:=by
 unfold Wj;rw [List.zipWith_append hb.symm]
omit [DecidableEq κ] in
theorem ZAL {l:List (κ×ν)} {bs:List Nat} {j:Nat} {p:κ×ν} {b:Nat} (h1:l[j]? =some p) (h2:bs[j]? =some b):(Wj kv vv l bs)[j]? =some ⟨kv p.1,vv p.2,b⟩:=by
 unfold Wj;rw [List.getElem?_zipWith,h1,h2]
omit [DecidableEq κ] in
theorem Zqg {l:List (κ×ν)} {bs:List Nat} (f:MapEntry ->MapEntry) (g:κ×ν ->κ×ν) (hfg:∀ p b,f ⟨kv p.1,vv p.2,b⟩= ⟨kv (g p).1,vv (g p).2,b⟩) (j:Nat):(Wj kv vv l bs).modify j f=Wj kv vv (l.modify j g) bs:=by
 induction l generalizing bs j with
 | nil=>simp [Wj]
 | cons p l ih=>
   cases bs with
   | nil=>simp [Wj]
   | cons b bs=>
     cases j with
     | zero=>simp only [Wj,List.zipWith_cons_cons,List.modify_zero_cons,hfg]
     | succ j=>simp only [Wj,List.zipWith_cons_cons,List.modify_succ_cons];congr 1;exact ih j
structure MapAt (kv:κ ->Value) (vv:ν ->Value) (h:H) (m:Option Nat) (l:List (κ×ν)):Prop where
 mem:(m=none/\l= [])\/∃ i bs clk,m=some i/\h.at i= .map (Wj kv vv l bs) clk/\bs.length=l.length/\bs.Nodup/\∀ b ∈ bs,b < clk
structure ZOZ (kv:κ ->Value) (vv:ν ->Value) (lo:Nat) (h:H) (m:Option Nat) (l:List (κ×ν)):Prop where
 at_:MapAt kv vv h m l
 low:∀ i,m=some i ->lo <=i
variable {wm lo:Nat} {h h':H} {m:Option Nat} {l:List (κ×ν)}
theorem map_lt {i:Nat} {es:List MapEntry} {c:Nat} (e:h.at i= .map es c):i < h.size:=QE e rfl
omit [DecidableEq κ] in
theorem MapAt.keep (s:MapAt kv vv h m l) (k:∀ i,m=some i ->h'.at i=h.at i):MapAt kv vv h' m l:=
 ⟨s.mem.imp id fun⟨i,bs,clk,q,h1,h2⟩=>⟨i,bs,clk,q,by rw [k i q];exact h1,h2⟩⟩
section
variable {ops:Array Oper} {ol:List Oper} {fr:Fr} {ds:List Deferred} {ty:TypeId} {p:String} {af:Array Edge} {g:Option (Nat×Bool)} {d:Option Tmp} {vt:TypeId} {ev:Operand ->Option Value}
omit [DecidableEq κ] in
theorem ZHN (s:MapAt kv vv h m l):∃ bs c,Zh2 h (.map m)=some (Wj kv vv l bs,c)/\bs.length=l.length:=by
 rcases s.mem with⟨rfl,rfl⟩ | ⟨i,bs,clk,rfl,h1,h2,_⟩
 ·exact⟨[],0,rfl,rfl⟩
 ·refine⟨bs,clk,?_,h2⟩;unfold Zh2;dsimp only;rw [h1]
theorem ZOy {t:TypeId} {x y:Operand} {k:κ} {z:ν} (K:ZkC X.P kt kv) (hu:X.P.underlying t=some (.map kt vt)) (hz:X0 X.P vt=some (vv z)) (hx:ev x=some (.map m)) (hy:ev y=some (kv k)) (s:MapAt kv vv h m l):
 Qw X h ev ⟨d,.lookup t x y false,ty,p,af,g⟩=some (.val (vv ((ZFS l k).getD z)),.none):=by
 obtain⟨bs,c,h1,h2⟩:=ZHN s;show(match ev x,ev y with | some m,some k=>vN (Zd4 X.P h t m k false) | _,_=>none)=_;rw [hx,hy];dsimp only
 have:Zd4 X.P h t (.map m) (kv k) false=some (vv ((ZFS l k).getD z)):=by
  unfold Zd4;rw [hu,h1];dsimp only;rw [K.ok,Cq1,Zku K k l bs h2];unfold ZFS;cases Zaw l k with
  | some q=>rfl
  | none=>
    show(match X0 X.P vt with | some z=>some (bif false then Value.tuple #[z,.bool false] else z) | none=>none)=_;rw [hz];rfl
 rw [this];rfl
theorem Zga {t:TypeId} {x y:Operand} {k:κ} {z v:ν} {w:Value} (K:ZkC X.P kt kv) (hu:X.P.underlying t=some (.map kt vt)) (hz:X0 X.P vt=some (vv z)) (hx:ev x=some (.map m)) (hy:ev y=some (kv k)) (s:MapAt kv vv h m l) (hv:ZZh l k z=some v) (hw:vv v=w):
 Qw X h ev ⟨d,.lookup t x y false,ty,p,af,g⟩=some (.val w,.none):=by
 rw [ZOy K hu hz hx hy s,Oi0 hv,hw]
theorem ZvO {i:Nat} {es es':List MapEntry} {c c':Nat} (hw:wm <=i) (h1:h.at i= .map es c):Eff.apply wm h (.upd i (.map es' c'))=some (h.put i (.map es' c')):=by
 show(bif Nat.ble wm i && (h.at i).own then some (h.put i _) else none)=_;rw [h1,Nm0 hw];rfl
theorem Zy8 {i:Nat} {es:List MapEntry} {c:Nat} {A:Qj} (hl:lo <=i) (h1:h.at i= .map es c):Up lo (fun j=>some i=some j) h (h.put i A):=
 ⟨Nat.le_refl _,fun j _ hn=>Jy (fun q=>hn (by rw [q])) A,fun j e=>by cases e;exact⟨hl,by rw [h1];rfl⟩⟩
theorem ZJ8 {fr:Fr} {t:TypeId} {x y z:Operand} {k:κ} {v:ν} (K:ZkC X.P kt kv) (hu:X.P.underlying t=some (.map kt vt)) (hw:wm <=lo) (hx:Xf fr x=some (.map m)) (hm:m.isSome=true) (hy:Xf fr y=some (kv k)) (hz:Xf fr z=some (vv v)) (s:ZOZ kv vv lo h m l):
 ∃ h',SU X wm ⟨d,.mapUpdate t x y z,ty,p,af,g⟩ fr h h' true/\Up lo (fun j=>m=some j) h h'/\ZOZ kv vv lo h' m (ZsS l k v):=by
 obtain⟨i,rfl⟩:=Option.isSome_iff_exists.1 hm;have hlo:=s.low i rfl;rcases s.at_.mem with⟨q,_⟩ | ⟨j,bs,clk,q,h1,h2,h3,h4⟩
 ·cases q
 ·cases q
  have key:∀ E,Q6 X.P h t (.map (some i)) (kv k) (vv v)=some E ->Qw X h (Xf fr) ⟨d,.mapUpdate t x y z,ty,p,af,g⟩=some (.skip,E):=fun E hE=>by
   show(match Xf fr x,Xf fr y,Xf fr z with | some m,some k,some x=>sE (Q6 X.P h t m k x) | _,_,_=>none)=_;rw [hx,hy,hz];dsimp only;rw [hE];rfl
  have ham:Zh2 h (.map (some i))=some (Wj kv vv l bs,clk):=by unfold Zh2;dsimp only;rw [h1]
  cases e:Zaw l k with
  | some q=>
    have hq:=ZsT e;have hql:q.1 < bs.length:=by rw [h2];exact(Li0 hq).1
    have hbq:bs[q.1]? =some bs[q.1]:=List.getElem?_eq_getElem hql
    have hmod:(Wj kv vv l bs).modify q.1 (fun e=>{e with key:=kv k,val:=vv v})=Wj kv vv (l.modify q.1 fun p=>(p.1,v)) bs:=by
     have h5:(Wj kv vv l bs).modify q.1 (fun e=>{e with key:=kv k,val:=vv v})=Wj kv vv (l.modify q.1 fun _=>(k,v)) bs:=Zqg _ _ (fun p b=>rfl) _;rw [h5];congr 1;apply List.ext_getElem?;intro n;rw [List.getElem?_modify,List.getElem?_modify];by_cases hn:q.1=n
     ·subst hn;rw [hq];simp
     ·simp [hn]
    refine⟨_,⟨.upd i (.map (Wj kv vv (l.modify q.1 fun p=>(p.1,v)) bs) clk),key _ ?_,ZvO (Nat.le_trans hw hlo) h1,fun z=>by cases z⟩,Zy8 hlo h1,⟨⟨.inr ⟨i,bs,clk,rfl,?_,?_,h3,h4⟩⟩,s.low⟩⟩
    ·unfold Q6;rw [hu,ham];dsimp only;rw [K.ok,Cq1,Zku K k l bs h2,e];dsimp only [Option.map_some];rw [ZAL hq hbq];dsimp only;rw [K.same,Cq1,hmod]
    ·rw [XG (map_lt h1)];unfold ZsS;rw [e]
    ·unfold ZsS;rw [e];simpa using h2
  | none=>
    refine⟨_,⟨.upd i (.map (Wj kv vv (l ++ [(k,v)]) (bs ++ [clk])) (clk + 1)),key _ ?_,ZvO (Nat.le_trans hw hlo) h1,fun z=>by cases z⟩,Zy8 hlo h1,⟨⟨.inr ⟨i,bs ++ [clk],clk + 1,rfl,?_,?_,?_,?_⟩⟩,s.low⟩⟩
    ·unfold Q6;rw [hu,ham];dsimp only;rw [K.ok,Cq1,Zku K k l bs h2,e,Zqh h2];rfl
    ·rw [XG (map_lt h1)];unfold ZsS;rw [e]
    ·unfold ZsS;rw [e];simp [h2]
    ·rw [List.nodup_append];exact⟨h3,by simp,fun a ha b hb=>by simp at hb;subst hb;exact Nat.ne_of_lt (h4 a ha)⟩
    ·intro b hb;rw [List.mem_append] at hb;rcases hb with hb | hb
     ·have:=h4 b hb;omega
     ·simp at hb;omega
end
end
section
variable {P:Program}
theorem ZN5 {e:Bool} {t:TypeId} {v:Value} {k:IntKind} {d:Nat} (hu:P.underlying t=some (.int k)):Yt P (Instr.checkKey e (d + 1) t v)=some (.ok ()):=by
 unfold Instr.checkKey;rw [prb (Qx hu)];rfl
theorem ZkC.int {kt:TypeId} {k:IntKind} (hu:P.underlying kt=some (.int k)):ZkC P kt (Value.int k) where
 pl:=fun _=>rfl
 ok:=fun e x=>by
  unfold Zcu;rw [show(10000:Nat)=9999 + 1 from rfl,ZN5 hu];rfl
 same:=fun x=>by simp [Instr.sameBits]
 eq:=fun x y=>by
  have:=eq_int (P:=P) (d:=9999) (a:=x) (b:=y) hu;exact this
 kW:= ⟨_,hu,.inr fun x y=>by simp only [Instr.sameNow,if_true];rfl⟩
end
section
variable {X:Ctx} {n wm lo:Nat} {Q:XX ->Fs ->Prop} {fr:Fr} {ds:List Deferred} {h:H}
structure BdK (n lo l:Nat) (fr:Fr) (ps:Array Tmp) (Xm bd:Code) (df:Nat) (R:H ->Prop) (e:XX) (s:Fs):Prop where
 out:e= .normal/\s.h.at l= .loop .busy none fr n ps Xm bd df/\∀ h',(lo <=l ->Up lo (fun i=>i=l) s.h h') ->h'.at l= .loop .ready none fr n ps Xm bd df ->R h'
structure AsK (X:Ctx) (n wm lo l:Nat) (fr:Fr) (ps:Array Tmp) (Xm bd:Code) (df:Nat) (R:H ->Prop) (e:XX) (s:Fs):Prop where
 out:e= .normal/\s.h.at l= .loop .ready none fr n ps Xm bd df/\∀ h1,(lo <=l ->Up lo (fun i=>i=l) s.h h1) ->h1.at l= .loop .busy none fr n ps Xm bd df ->WC X n wm (some l) bd ⟨s.fr,s.ds,h1,s.wr⟩ (BdK n lo l fr ps Xm bd df R)
theorem BdK.mk' {l:Nat} {fr QJ:Fr} {ps:Array Tmp} {Xm bd:Code} {df:Nat} {R:H ->Prop} (h1:h.at l= .loop .busy none fr n ps Xm bd df) (k:∀ h',(lo <=l ->Up lo (fun i=>i=l) h h') ->h'.at l= .loop .ready none fr n ps Xm bd df ->R h'):BdK n lo l fr ps Xm bd df R .normal ⟨QJ,ds,h,none⟩:= ⟨⟨rfl,h1,k⟩⟩
theorem AsK.mk' {l:Nat} {fr QJ:Fr} {ps:Array Tmp} {Xm bd:Code} {df:Nat} {R:H ->Prop} (h1:h.at l= .loop .ready none fr n ps Xm bd df) (k:∀ h1,(lo <=l ->Up lo (fun i=>i=l) h h1) ->h1.at l= .loop .busy none fr n ps Xm bd df ->WC X n wm (some l) bd ⟨QJ,ds,h1,none⟩ (BdK n lo l fr ps Xm bd df R)):AsK X n wm lo l fr ps Xm bd df R .normal ⟨QJ,ds,h,none⟩:= ⟨⟨rfl,h1,k⟩⟩
def Zun (X:Ctx) (l:Nat) (args:Array Value) (wm:Nat) (h:H) (R:Bool ->H ->Prop):Prop:=∃ b h',R b h'/\XK X (.round l args wm h) (.fin (.ret (.bool b)) h')
theorem Zun.mk' {l:Nat} {args:List Value} {fr fr1:Fr} {ps:Array Tmp} {Xm bd:Code} {df:Nat} {R:H ->Prop} (lo:Nat) (hat:h.at l= .loop .ready none fr n ps Xm bd df) (hw:wm <=l) (hl:Nat.beq args.length ps.toList.length=true) (hs:Jm (ps.toList.zip args) n fr=some fr1)
 (k:WC X n wm (some l) Xm ⟨fr1,[],h,none⟩ (AsK X n wm lo l fr ps Xm bd df R)):Zun X l args.toArray wm h (fun b h'=>b=true/\R h'):=by
 obtain⟨e1,s1,⟨rfl,h1,k1⟩,j1⟩:=k;have o1:(s1.h.at l).own=true:=by rw [h1];rfl
 have s1l:=QE h1 rfl;obtain⟨e2,s2,⟨rfl,h2,k2⟩,j2⟩:=k1 (s1.h.put l (.loop .busy none fr n ps Xm bd df)) (fun hl=>Up.put hl o1) (XG s1l _);have o2:(s2.h.at l).own=true:=by rw [h2];rfl
 refine⟨true,s2.h.put l (.loop .ready none fr n ps Xm bd df),⟨rfl,k2 _ (fun hl=>Up.put hl o2) (XG (QE h2 rfl) _)⟩,?_⟩
 classical
 let ih:J7 ->Option XU:=fun j=>if j= .code Xm n wm (some l) ⟨fr1,[],h,none⟩ then some (.code .normal s1) else ZaY (.code bd n wm (some l) {s1 with h:=s1.h.put l (.loop .busy none fr n ps Xm bd df)}) (.code .normal s2) j
 have HI:∀ j r,ih j=some r ->XK X j r:=by
  intro j r e;dsimp only [ih] at e;split at e
  ·rename_i hj;cases e;rw [hj];exact j1
  ·exact U7 (X:=X) j2 j r e
 refine Za3 (C:=cfg X fun _=>false) (ih:=ih) HI ?_;unfold Zd0;rw [hat];have hl':Nat.beq args.toArray.toList.length ps.toList.length=true:=hl;dsimp only;rw [Nm0 hw,hl'];simp only [Bool.and_self,Cq1];have hs':Jm (ps.toList.zip args.toArray.toList) n fr=some fr1:=hs;rw [hs'];dsimp only;have i1:ih (.code Xm n wm (some l) {fr:=fr1,ds:= [],h:=h})=some (.code .normal s1):=by dsimp only [ih];rw [if_pos rfl]
 rw [i1];show ZaB ih l bd n wm .normal s1=_;unfold ZaB;dsimp only;rw [h1];dsimp only
 have i2:ih (.code bd n wm (some l) {s1 with h:=s1.h.put l (.loop .busy none fr n ps Xm bd df)})=some (.code .normal s2):=by
  dsimp only [ih];split
  ·rename_i hj;exfalso;injection hj with _ _ _ _ hs
   have:({s1 with h:=s1.h.put l (.loop .busy none fr n ps Xm bd df)}:Fs).h.at l=h.at l:=by rw [hs]
   dsimp only at this;rw [XG s1l,hat] at this;cases this
  ·exact U8 _ _
 rw [i2];show KF l .normal s2=_;unfold KF;rw [h2]
section
variable {ops:Array Oper} {ol:List Oper} {d:Nat} {ty:TypeId} {p:String} {af:Array Edge} {g:Option (Nat×Bool)} {rd:Option Nat}
theorem WO.round {l:Nat} {args:Array Value} {E:Eff} {v:Value} {h1 h2:H} {op:Op} (hg:YO ops ⟨some d,op,ty,p,af,g⟩ fr) (hd:Nat.blt d n=true) (ha:Qw X h (Xf fr) ⟨some d,op,ty,p,af,g⟩=some (.round l args,E)) (hE:E.apply wm h=some h1)
 (hc:XK X (.round l args wm h1) (.fin (.ret v) h2)) (k:WO X n wm rd ops ol ⟨Tr.set fr d v,ds,h2,none⟩ Q):WO X n wm rd ops (⟨some d,op,ty,p,af,g⟩::ol) ⟨fr,ds,h,none⟩ Q:=by
 have hd':Zkc n (some d)=true:=hd;refine WO.cons (U7 hc) (s1:= ⟨Tr.set fr d v,ds,h2,none⟩) ?_ k;unfold ZbG;rw [hg.1,hg.2];dsimp only [Bool.not_true,Cq0,Cq1];rw [ha];dsimp only [Bool.not_true,Cq0,Cq1];rw [hE];unfold ZcA;dsimp only [Zal,Cq0];rw [U8];dsimp only;rw [Zgb hd']
 rfl
theorem WO.yld {l:Nat} {fo:Operand} {xs:Array Operand} {ts:Array TypeId} {vs:List Value} {R:Bool ->H ->Prop} {st:LoopState} {pd:Option Code} {fr':Fr} {n':Nat} {ps:Array Tmp} {Xm bd:Code} {df:Nat}
 (hg:YO ops ⟨some d,.call {callee:= .value fo,args:=xs,argTypes:=ts},ty,p,af,g⟩ fr) (hd:Nat.blt d n=true) (hf:Xf fr fo=some (.func (.yield l) #[] #[])) (hx:evs (Xf fr) xs.toList=some vs)
 (hat:h.at l= .loop st pd fr' n' ps Xm bd df) (hl:vs.length=ps.toList.length) (hr:Zun X l vs.toArray wm h R) (k:∀ b h',R b h' ->WO X n wm rd ops ol ⟨Tr.set fr d (.bool b),ds,h',none⟩ Q):
 WO X n wm rd ops (⟨some d,.call {callee:= .value fo,args:=xs,argTypes:=ts},ty,p,af,g⟩::ol) ⟨fr,ds,h,none⟩ Q:=by
 obtain⟨b,h',hR,hj⟩:=hr;refine WO.round (E:= .none) hg hd ?_ rfl hj (k b h' hR);rw [Zhm,hx];dsimp only;rw [hf];dsimp only;unfold KY;dsimp only;rw [hat];dsimp only;rw [hl,Nat.beq_refl];rfl
theorem WO.Zay {o:Oper} {c:Bool} (_:Zf ops o fr c) (h1:c=true ->WO X n wm rd ops (o::ol) ⟨fr,ds,h,none⟩ Q) (h2:c=false ->WO X n wm rd ops (o::ol) ⟨fr,ds,h,none⟩ Q):WO X n wm rd ops (o::ol) ⟨fr,ds,h,none⟩ Q:=by
 cases c
 ·exact h2 rfl
 ·exact h1 rfl
theorem Zf.on {o:Oper} {c:Bool} (hg:Zf ops o fr c) (hc:c=true):YO ops o fr:= ⟨hg.1,hg.2.trans hc⟩
theorem Zf.off {o:Oper} {c:Bool} (hg:Zf ops o fr c) (hc:c=false):Zgj ops o fr:= ⟨hg.1,hg.2.trans hc⟩
end
structure JF (X:Ctx) (fn:Func) (wm:Nat) (Q:Zad ->H ->Prop) (e:XX) (s:Fs):Prop where
 out:∃ pm E h',xPM e=some pm/\Q E h'/\XK X (.leave fn wm pm s) (.fin E h')
theorem WF.ZNY {f:FuncId} {fn:Func} {c:Code} {args:Array Value} {Q:Zad ->H ->Prop} (hf:X.fns.get f=some fn) (hb:fn.body=some c) (hn:args.toList.length <=fn.ntmps)
 (k:WC X fn.ntmps wm none c {fr:=Q7 args.toList 0 .nil,ds:= [],h:=h} (JF X fn wm Q)):WF X f args wm h Q:=by
 obtain⟨e,s',⟨pm,E,h',hpm,hq,hj⟩,ka⟩:=k;refine⟨E,h',hq,?_⟩;intro ρ args' w Ye hr hv
 have hi:Inv ρ fn.ntmps {fr:=Q7 args.toList 0 .nil,ds:= [],h:=h} {tmps:=args' ++ Array.replicate (fn.ntmps - args'.size) undef,defers:= []} w:=
  ⟨hr,Kj hv hn,.nil⟩
 refine callsIn_of_wp_marks (X.ok f fn hf).1 hb trivial (wpIn_mono (ka ρ _ w Fence.wide Ye hi rfl) ?_);rintro e' a' w' ⟨ρ',he,hi',hst⟩;cases he with
 | normal=>cases hpm;exact hj ρ' _ a' .returning w' _ (Nat.le_trans Ye hst.size) hi' .ret (fun _ _ hp=>Wh.trans hr.lt hst hp)
 | ret=>cases hpm;exact hj ρ' _ a' .returning w' _ (Nat.le_trans Ye hst.size) hi' .ret (fun _ _ hp=>Wh.trans hr.lt hst hp)
 | panic hv'=>cases hpm;exact hj ρ' _ a' _ w' _ (Nat.le_trans Ye hst.size) hi' (.pan hv') (fun _ _ hp=>Wh.trans hr.lt hst hp)
 | exit id=>cases hpm
 | goto l=>cases hpm
theorem WF.Zhj {f:FuncId} {fn:Func} {c:Code} {args:List Value} {n:Nat} {R:Zad ->H ->Prop} (hf:X.fns.get f=some fn) (hb:fn.body=some c) (hnt:fn.ntmps=n) (hn:args.length <=n)
 (k:WC X n wm none c ⟨Q7 args 0 .nil,[],h,none⟩ (JF X fn wm R)):WF X f args.toArray wm h R:=by
 subst hnt;exact WF.ZNY hf hb hn k
theorem ZwK {fn:Func} {v:Value} {wr:Option Nat} (hv:Ua X.P fn fr h=some v):XK X (.leave fn wm .ret ⟨fr,[],h,wr⟩) (.fin (.ret v) h):=by
 refine Kl (C:=cfg X fun _=>false) (ih:=fun _=>none) (fun _ _ h=>by cases h) ?_;have hv':Ua (cfg X fun _=>false).X.P fn fr h=some v:=hv;unfold Km;simp only [hv']
theorem ZwL {fn:Func} {pm:PM} {r:Nat} {wr:Option Nat} {E:Zad} {h':H} (hat:h.at r= .deferred) (hw:wm <=r) (hj:XK X (.leave fn wm pm ⟨fr,ds,h.put r .dead,wr⟩) (.fin E h')):XK X (.leave fn wm pm ⟨fr,⟨.collected r,#[]⟩::ds,h,wr⟩) (.fin E h'):=by
 refine Kl (C:=cfg X fun _=>false) (ih:=ZaY (.leave fn wm pm ⟨fr,ds,h.put r .dead,wr⟩) (.fin E h')) (U7 hj) ?_;unfold Km;dsimp only;rw [hat];dsimp only;rw [Nm0 hw,Cq1];exact U8 _ _
theorem JF.gen {fn:Func} {R:Value ->H ->Prop} {rs:List ResultVar} {vs:List Value} {v:Value} (hr:fn.results.toList=rs) (hv:ZeS X.P fr h rs=some vs) (hl:(match vs with | [v]=>v | vs=>.tuple vs.toArray)=v) (k:R v h):JF X fn wm (fun e h'=>∃ v,e= .ret v/\R v h') .ret ⟨fr,[],h,none⟩:=by
 refine⟨⟨.ret,.ret v,h,rfl,⟨v,rfl,k⟩,ZwK ?_⟩⟩;unfold Ua;rw [hr,hv,<- hl]
 match vs with
 | []=>rfl
 | [_]=>rfl
 | _::_::_=>rfl
theorem JF.col {fn:Func} {R:Zad ->H ->Prop} {r:Nat} (lo:Nat) (hlo:lo <=r) (hat:h.at r= .deferred) (hw:wm <=r) (k:∀ h',Up lo (fun i=>i=r) h h' ->JF X fn wm R .ret ⟨fr,ds,h',none⟩):JF X fn wm R .ret ⟨fr,⟨.collected r,#[]⟩::ds,h,none⟩:=by
 have hu:Up lo (fun i=>i=r) h (h.put r .dead):=Up.put hlo (by rw [hat];rfl);obtain⟨pm,E,h',hpm,hq,hj⟩:= (k _ hu).out;cases hpm;exact⟨⟨.ret,E,h',rfl,hq,ZwL hat hw hj⟩⟩
theorem JF.Xx {fn:Func} {R:Zad ->H ->Prop} {s:Fs} (k:JF X fn wm R .ret s):JF X fn wm R .normal s:=by
 obtain⟨pm,E,h',hpm,hq⟩:=k.out;cases hpm;exact⟨⟨.ret,E,h',rfl,hq⟩⟩
section
variable {ops:Array Oper} {ol:List Oper} {d:Nat} {ty:TypeId} {p:String} {af:Array Edge} {g:Option (Nat×Bool)} {rd:Option Nat} {mm:Nat} {sf:SfT} {QQ:Fr ->H ->Prop} {κ ν:Type} [DecidableEq κ] {kt vt:TypeId} {kv:κ ->Value} {vv:ν ->Value} {m:Option Nat} {l:List (κ×ν)}
end
theorem WO.XO {ops:Array Oper} {ol:List Oper} {d:Nat} {op:Op} {ty:TypeId} {p:String} {af:Array Edge} {g:Option (Nat×Bool)} {rd:Option Nat} {c:Bool} (hg:Zf ops ⟨some d,op,ty,p,af,g⟩ fr c) (hc:c=false) (hd:Nat.blt d n=true) (k:WO X n wm rd ops ol ⟨Tr.set fr d undef,ds,h,none⟩ Q):
 WO X n wm rd ops (⟨some d,op,ty,p,af,g⟩::ol) ⟨fr,ds,h,none⟩ Q:=WO.o (hg.off hc) hd k
theorem Zdw {ev:Operand ->Option Value} {d:Option Tmp} {ty:TypeId} {p:String} {af:Array Edge} {g:Option (Nat×Bool)} {f:FuncId} {xs:Array Operand} {vs:List Value} (hx:evs ev xs.toList=some vs):Qw X h ev ⟨d,.makeFunc (.func f) #[] xs,ty,p,af,g⟩=some (.val (.func (.func f) #[] vs.toArray),.none):=by
 show(bif Znm (.func f) then none else match evs ev [],evs ev xs.toList with | some vs,some us=>some (AN.val (.func (.func f) vs.toArray us.toArray),Eff.none) | _,_=>none)=_;rw [hx];rfl
section
variable {ops:Array Oper} {ol:List Oper} {d:Nat} {ty:TypeId} {p:String} {af:Array Edge} {g:Option (Nat×Bool)} {rd:Option Nat} {mm:Nat} {sf:SfT} {QQ:Fr ->H ->Prop} {κ ν:Type} [DecidableEq κ] {kt vt:TypeId} {kv:κ ->Value} {vv:ν ->Value} {m:Option Nat} {l:List (κ×ν)}
end
end
section
theorem Zc6 {h:H} {i:Nat} (e:(h.at i).own=true):i < h.size:=by
 rcases Nat.lt_or_ge i h.size with z | z
 ·exact z
 ·rw [H.ZcB z] at e;cases e
structure Ast (wm:Nat) where
 P:H ->Prop
 fp:Nat ->Prop
 loc:∀ {h h':H},Fz wm h h' ->(∀ i,fp i ->h'.at i=h.at i) ->P h ->P h'
 own:∀ {h:H} {i:Nat},P h ->fp i ->wm <=i/\(h.at i).own=true
def Dj {wm:Nat} (A B:Ast wm):Prop:=∀ i,A.fp i ->B.fp i ->False
theorem Dj.symm {wm:Nat} {A B:Ast wm} (h:Dj A B):Dj B A:=fun i a b=>h i b a
structure Ym {wm:Nat} (G:List (Ast wm)) (h:H):Prop where
 all:∀ A ∈ G,A.P h
 dis:G.Pairwise Dj
def Qe {wm:Nat} (G:List (Ast wm)) (i:Nat):Prop:=∃ A ∈ G,A.fp i
structure Sp (wm:Nat) (T:Nat ->Prop) (h0:H) (G:List (Ast wm)) (h:H):Prop where
 wl:wm <=h0.size
 fz:Fz wm h0 h
 keep:∀ i,i < h0.size ->¬ T i ->h.at i=h0.at i
 hold:Ym G h
 inn:∀ i,Qe G i ->T i\/h0.size <=i
inductive Pk {α:Type}:List α ->α ->List α ->Prop
 | z {A:α} {G:List α}:Pk (A::G) A G
 | s {A B:α} {G G':List α}:Pk G A G' ->Pk (B::G) A (B::G')
theorem Pk.perm {α:Type} {G G':List α} {A:α} (p:Pk G A G'):G.Perm (A::G'):=by
 induction p with
 | z=>exact List.Perm.refl _
 | s _ ih=>exact(List.Perm.cons _ ih).trans (List.Perm.swap _ _ _)
theorem Pk.mem {α:Type} {G G':List α} {A:α} (p:Pk G A G'):A ∈ G:=p.perm.mem_iff.2 (by simp)
inductive Sel {α:Type}:List α ->List α ->List α ->Prop
 | n {G:List α}:Sel G [] G
 | c {A:α} {G G1 Ga Gr:List α}:Pk G A G1 ->Sel G1 Ga Gr ->Sel G (A::Ga) Gr
theorem Sel.perm {α:Type} {G Ga Gr:List α} (p:Sel G Ga Gr):G.Perm (Ga ++ Gr):=by
 induction p with
 | n=>exact List.Perm.refl _
 | c p _ ih=>exact p.perm.trans (List.Perm.cons _ ih)
section
variable {wm:Nat} {G Ga Gb Gr:List (Ast wm)} {h h' h0:H} {T t:Nat ->Prop} {A B:Ast wm}
theorem Ym.perm (p:G.Perm Ga) (s:Ym G h):Ym Ga h:= ⟨fun A m=>s.all A (p.mem_iff.2 m),(p.pairwise_iff (fun h=>Dj.symm h)).1 s.dis⟩
theorem Ym.left (s:Ym (Ga ++ Gr) h):Ym Ga h:= ⟨fun A m=>s.all A (List.mem_append.2 (.inl m)),(List.pairwise_append.1 s.dis).1⟩
theorem Ym.right (s:Ym (Ga ++ Gr) h):Ym Gr h:= ⟨fun A m=>s.all A (List.mem_append.2 (.inr m)),(List.pairwise_append.1 s.dis).2.1⟩
theorem Ym.nil:Ym ([]:List (Ast wm)) h:= ⟨fun _ m=>by simp at m,.nil⟩
theorem Ym.one (a:A.P h):Ym [A] h:= ⟨fun _ m=>by rw [List.mem_singleton.1 m];exact a,List.pairwise_singleton _ _⟩
theorem Qe.perm (p:G.Perm Ga) {i:Nat} (s:Qe G i):Qe Ga i:=let⟨A,m,f⟩:=s;⟨A,p.mem_iff.1 m,f⟩
theorem Ym.own (s:Ym G h) {i:Nat} (f:Qe G i):wm <=i/\(h.at i).own=true:=let⟨A,m,f⟩:=f;A.own (s.all A m) f
theorem Sp.perm (p:G.Perm Ga) (s:Sp wm T h0 G h):Sp wm T h0 Ga h:= ⟨s.wl,s.fz,s.keep,s.hold.perm p,fun i f=>s.inn i (f.perm p.symm)⟩
theorem Sp.size (s:Sp wm T h0 G h):h0.size <=h.size:=s.fz.size
theorem Sp.hw (s:Sp wm T h0 G h):wm <=h.size:=Nat.le_trans s.wl s.fz.size
theorem Sp.start (hw:wm <=h.size) (s:Ym G h):Sp wm (Qe G) h G h:= ⟨hw,Fz.refl _ _,fun _ _ _=>rfl,s,fun _ f=>.inl f⟩
theorem Sp.step (s:Sp wm T h0 (Ga ++ Gr) h) (u:Up wm t h h') (ht:∀ i,t i ->Qe Ga i) (hb:Ym Gb h') (hf:∀ i,Qe Gb i ->Qe Ga i\/h.size <=i):Sp wm T h0 (Gb ++ Gr) h':=by
 have hd:= (List.pairwise_append.1 s.hold.dis).2.2;have hsep:∀ i,Qe Ga i ->Qe Gr i ->False:=fun i ⟨A,m,f⟩ ⟨B,m',f'⟩=>hd A m B m' i f f'
 have hr:=s.hold.right;refine⟨s.wl,s.fz.trans (u.fz (Nat.le_refl _)),fun i hi hn=>?_,⟨fun A m=>?_,?_⟩,fun i f=>?_⟩
 ·have hnt:¬ t i:=fun q=>by
   rcases s.inn i (by obtain⟨A,m,f⟩:=ht i q;exact⟨A,List.mem_append.2 (.inl m),f⟩) with z | z
   ·exact hn z
   ·omega
  rw [u.keep i (Nat.lt_of_lt_of_le hi s.size) hnt,s.keep i hi hn]
 ·rcases List.mem_append.1 m with m | m
  ·exact hb.all A m
  ·exact A.loc (u.fz (Nat.le_refl _)) (fun i f=>u.keep i (Zc6 (A.own (hr.all A m) f).2) (fun q=>hsep i (ht i q) ⟨A,m,f⟩)) (hr.all A m)
 ·refine List.pairwise_append.2 ⟨hb.dis,hr.dis,fun B m A m' i f f'=>?_⟩;rcases hf i ⟨B,m,f⟩ with z | z
  ·exact hsep i z ⟨A,m',f'⟩
  ·exact absurd (Zc6 (A.own (hr.all A m') f').2) (Nat.not_lt_of_le z)
 ·obtain⟨A,m,f⟩:=f;rcases List.mem_append.1 m with m | m
  ·rcases hf i ⟨A,m,f⟩ with⟨B,m',f'⟩ | z
   ·exact s.inn i ⟨B,List.mem_append.2 (.inl m'),f'⟩
   ·exact .inr (Nat.le_trans s.size z)
  ·exact s.inn i ⟨A,List.mem_append.2 (.inr m),f⟩
theorem Sp.new (s:Sp wm T h0 Gr h) (u:Up wm (fun _=>False) h h') (hb:B.P h') (hf:∀ i,B.fp i ->h.size <=i):Sp wm T h0 (B::Gr) h':=
 Sp.step (Ga:= []) (Gb:= [B]) s u (fun _ z=>z.elim) (Ym.one hb) fun i ⟨A,m,f⟩=>by rw [List.mem_singleton.1 m] at f;exact .inr (hf i f)
theorem Sp.up (s:Sp wm T h0 Gr h) (u:Up wm (fun _=>False) h h'):Sp wm T h0 Gr h':=
 Sp.step (Ga:= []) (Gb:= []) s u (fun _ z=>z.elim) Ym.nil fun i ⟨A,m,f⟩=>by simp at m
theorem Sp.one (p:Pk G A Gr) (s:Sp wm T h0 G h) (u:Up wm t h h') (ht:∀ i,t i ->A.fp i) (hb:B.P h') (hf:∀ i,B.fp i ->A.fp i\/h.size <=i):Sp wm T h0 (B::Gr) h':=
 Sp.step (Ga:= [A]) (Gb:= [B]) (s.perm p.perm) u (fun i q=>⟨A,by simp,ht i q⟩) (Ym.one hb) fun i ⟨C,m,f⟩=>by
   rw [List.mem_singleton.1 m] at f;exact(hf i f).imp (fun z=>⟨A,by simp,z⟩) id
theorem Sp.get (s:Sp wm T h0 G h) (p:Pk G A Gr):A.P h:=s.hold.all A p.mem
theorem Sp.drop (p:Pk G A Gr) (s:Sp wm T h0 G h):Sp wm T h0 Gr h:=by
 have s:=s.perm p.perm;exact⟨s.wl,s.fz,s.keep,Ym.right (Ga:= [A]) s.hold,fun i ⟨B,m,f⟩=>s.inn i ⟨B,by simp [m],f⟩⟩
theorem Sp.only (p:Sel G Ga Gr) (s:Sp wm T h0 G h):Sp wm T h0 Ga h:=by
 have s:=s.perm p.perm;exact⟨s.wl,s.fz,s.keep,s.hold.left,fun i ⟨B,m,f⟩=>s.inn i ⟨B,by simp [m],f⟩⟩
theorem Sp.add (s:Sp wm T h0 G h) (ha:A.P h) (hf:∀ i,¬ A.fp i):Sp wm T h0 (A::G) h:=
 ⟨s.wl,s.fz,s.keep,⟨fun B m=>by rcases List.mem_cons.1 m with m | m;· rw [m];exact ha
                                ·exact s.hold.all B m,List.pairwise_cons.2 ⟨fun B _ i f _=>hf i f,s.hold.dis⟩⟩,fun i ⟨B,m,f⟩=>by
   rcases List.mem_cons.1 m with m | m
   ·rw [m] at f;exact absurd f (hf i)
   ·exact s.inn i ⟨B,m,f⟩⟩
theorem Sp.say (s:Sp wm T h0 (Ga ++ Gr) h) (hb:Ym Gb h) (hf:∀ i,Qe Gb i ->Qe Ga i):Sp wm T h0 (Gb ++ Gr) h:=
 Sp.step (t:=fun _=>False) s ⟨Nat.le_refl _,fun _ _ _=>rfl,fun _ z=>z.elim⟩ (fun _ z=>z.elim) hb fun i f=>.inl (hf i f)
theorem Sp.call (p:Sel G Ga Gr) (s:Sp wm T h0 G h) (c:Sp wm (Qe Ga) h Gb h'):Sp wm T h0 (Gb ++ Gr) h':=by
 have s:=s.perm p.perm;exact Sp.step s ⟨c.size,c.keep,fun i f=>s.hold.left.own f⟩ (fun _ q=>q) c.hold c.inn
theorem Sp.Zio (p:Sel G Ga Gr) (s:Sp wm T h0 G h):Ym Ga h:= (s.hold.perm p.perm).left
end
def bx (wm b:Nat) (cs:List Value):Ast wm where
 P:=fun h=>h.at b= .row cs true 0/\wm <=b
 fp:=fun i=>i=b
 loc:=fun _ k ⟨h1,h2⟩=>⟨by rw [k b rfl,h1],h2⟩
 own:=fun⟨h1,h2⟩ e=>by subst e;exact⟨h2,by rw [h1];rfl⟩
def ow {α:Type} (wm:Nat) (e:Ux α) (a:Option Addr) (n c:Nat) (xs:List α):Ast wm where
 P:=fun h=>n=xs.length/\Qq e wm wm h a c xs
 fp:=X8 a
 loc:=fun f k ⟨h1,s⟩=>⟨h1,s.max,s.mem.imp id fun⟨i,o,cs,q1,q2,q3,q4,q5,q6⟩=>⟨i,o,cs,q1,q2,by rw [k i ⟨o,q1⟩,q3],q4,q5,q6.mono f⟩⟩
 own:=fun⟨_,s⟩ ⟨o,e⟩=>by
  rcases s.mem with⟨h1,_⟩ | ⟨i,o',cs,q1,q2,q3,_⟩
  ·rw [h1] at e;cases e
  ·rw [q1] at e;cases e;exact⟨q2,by rw [q3];rfl⟩
def mp {κ ν:Type} (wm:Nat) (kv:κ ->Value) (vv:ν ->Value) (m:Option Nat) (l:List (κ×ν)):Ast wm where
 P:=fun h=>ZOZ kv vv wm h m l
 fp:=fun i=>m=some i
 loc:=fun _ k s=>⟨s.at_.keep k,s.low⟩
 own:=fun{h i} s e=>⟨s.low i e,by
  rcases s.at_.mem with⟨q,_⟩ | ⟨j,bs,clk,q,h1,_⟩
  ·rw [q] at e;cases e
  ·rw [q] at e;cases e;rw [h1];rfl⟩
def X7 {α:Type} (wm:Nat) (r:Ux α) (p:r.KH) (x:α):Ast wm where
 P:=fun h=>r.F wm h p x
 fp:=fun _=>False
 loc:=fun f _ s=>r.mono f s
 own:=fun _ z=>z.elim
def ob (wm b:Nat) (A:Qj):Ast wm where
 P:=fun h=>h.at b=A/\wm <=b/\A.own=true
 fp:=fun i=>i=b
 loc:=fun _ k ⟨h1,h2⟩=>⟨by rw [k b rfl,h1],h2⟩
 own:=fun⟨h1,h2,h3⟩ e=>by subst e;exact⟨h2,by rw [h1];exact h3⟩
section
variable {wm:Nat} {G Gr:List (Ast wm)} {h h0:H} {T:Nat ->Prop}
theorem Sp.QW {b:Nat} {cs:List Value} (s:Sp wm T h0 G h) (p:Pk G (bx wm b cs) Gr):At h b 0 cs:=At.box (s.get p).1
theorem Sp.lt {b:Nat} {cs:List Value} (s:Sp wm T h0 G h) (p:Pk G (bx wm b cs) Gr):b < h.size:=QE (s.get p).1 rfl
theorem Sp.Qr {α:Type} {e:Ux α} {a:Option Addr} {n c:Nat} {xs:List α} (s:Sp wm T h0 G h) (p:Pk G (ow wm e a n c xs) Gr):Src e wm h a c xs:= (s.get p).2.src
theorem Sp.ord {α:Type} {e:Ux α} {a:Option Addr} {n c:Nat} {xs:List α} (s:Sp wm T h0 G h) (p:Pk G (ow wm e a n c xs) Gr):Sl e h.size h a c xs:= (s.Qr p).sl s.hw
theorem Sp.on {α:Type} {e:Ux α} {a:Option Addr} {n c:Nat} {xs:List α} (s:Sp wm T h0 G h) (p:Pk G (ow wm e a n c xs) Gr):n=xs.length:= (s.get p).1
theorem Sp.sl {α:Type} {e:Ux α} {a:Option Addr} {c:Nat} {xs:List α} (s:Sp wm T h0 G h) (f:Sl e wm h0 a c xs):Sl e wm h a c xs:=f.mono s.fz
theorem Sp.WN {α:Type} {e:Ux α} {a:Option Addr} {c:Nat} {xs:List α} (s:Sp wm T h0 G h) (f:Sl e wm h0 a c xs):Sl e h.size h a c xs:= (f.mono s.fz).up s.hw
end
end
section
variable {X:Ctx} {n wm:Nat} {rd:Option Nat} {ops:Array Oper} {l:List Oper} {fr:Fr} {ds:List Deferred} {h h1 h2:H} {ty:TypeId} {p:String} {af:Array Edge} {g:Option (Nat×Bool)} {m:Nat}
def VV (h h2:H) (xs:List Nat) (x:Nat):Prop:= (x < h.size/\x ∈ xs)\/h2.size <=x
structure ST where
 s:List (Nat×(Nat ->Prop))
 m:List (Nat×(Nat ->Prop))
 p:List (Nat×Nat×Nat×(Qj ->Prop))
def ST.nil:ST:= ⟨[],[],[]⟩
structure ZWU (X:Ctx) (n wm:Nat) (rd:Option Nat) (ops:Array Oper) (o:Oper) (T:Nat ->Prop) (xs:List Nat) (h:H) (fr:Fr) (v:Value) (h2:H):Prop where
 run:wm <=h.size ->∃ h1,h2=Jh xs h h1/\JK X.P wm rd ops o T fr (mask xs h) v h1/\WT T (mask xs h) h1
 wmT:∀ x,T x ->wm <=x
 dst:∀ d,o.dst=some d ->d < n
 hl:YL o=true ->(∀ x,¬ T x)/\h2=h/\∀ g,JK X.P wm rd ops o (fun _=>False) fr g v g
 mx:∀ x,T x ->x < h.size ->x ∉ xs
abbrev Cmp (ops:Array Oper) (i j:Nat):Prop:=comp (Jj ops.toList 0 []) i j=true
abbrev PsT:=Option (Nat×Nat×(Qj ->Prop))
structure WE (X:Ctx) (n wm:Nat) (rd:Option Nat) (ops:Array Oper) (sf:ST) (m:Nat) (h:H) (l:List Oper) (fr:Fr) (Q:Fr ->H ->Prop):Prop where
 out:∃ (hs:Nat ->H) (fs:Nat ->Fr) (vs:Nat ->Value) (Ts:Nat ->Nat ->Prop) (xs:Nat ->List Nat) (ps:Nat ->PsT),hs 0=h/\fs 0=fr/\Q (fs l.length) (hs l.length)/\∀ k o,l[k]? =some o ->
  ZWU X n wm rd ops o (Ts k) (xs k) (hs k) (fs k) (vs k) (hs (k + 1))/\fs (k + 1)=ZcP (fs k) o.dst (vs k)/\
  (∀ x,Ts k x ->x < (hs k).size ->∀ i o',i < m + k ->ops.toList[i]? =some o' ->Cmp ops i (m + k)\/YL o'=true\/(∃ V,(i,V) ∈ sf.s/\V x)\/(∃ C,(i,x,m + k,C) ∈ sf.p/\C ((hs (k + 1)).at x))\/
    ∃ i',i=m + i'/\i' < k/\(VV (hs i') (hs (i' + 1)) (xs i') x\/∃ C,ps i'=some (x,m + k,C)/\C ((hs (k + 1)).at x)))/\
  (YL o=false ->(∀ q ∈ sf.m,Cmp ops q.1 (m + k)\/∀ x,q.2 x ->VV (hs k) (hs (k + 1)) (xs k) x)/\∀ i',i' < k ->Cmp ops (m + i') (m + k)\/∀ x,Ts i' x ->x < (hs i').size ->VV (hs k) (hs (k + 1)) (xs k) x)/\
  (∀ x j C,ps k=some (x,j,C) ->xs k= []/\(∀ y,¬ Ts k y)/\hs (k + 1)=hs k/\Prm X.P wm rd ops o (fs k) (hs k) (vs k) x C)
variable {sf:ST} {Q:Fr ->H ->Prop}
theorem WE.nil (k:Q fr h):WE X n wm rd ops sf m h [] fr Q:= ⟨fun _=>h,fun _=>fr,fun _=>undef,fun _ _=>False,fun _=>[],fun _=>none,rfl,rfl,k,fun k o e=>by simp at e⟩
theorem WE.cons {o:Oper} {v:Value} {T:Nat ->Prop} {xs0:List Nat} (so to:List (Nat×(Nat ->Prop))) (p0:PsT) (h1:ZWU X n wm rd ops o T xs0 h fr v h2)
 (hso:∀ q ∈ so,q.1=m/\∀ x,q.2 x ->VV h h2 xs0 x) (hto:∀ x,T x ->x < h.size ->∃ q ∈ to,q.1=m/\q.2 x)
 (c1:∀ x,T x ->x < h.size ->∀ i o',i < m ->ops.toList[i]? =some o' ->Cmp ops i m\/YL o'=true\/(∃ V,(i,V) ∈ sf.s/\V x)\/∃ C,(i,x,m,C) ∈ sf.p/\C (h2.at x))
 (c2:YL o=false ->∀ q ∈ sf.m,Cmp ops q.1 m\/∀ x,q.2 x ->VV h h2 xs0 x)
 (hp:∀ x j C,p0=some (x,j,C) ->xs0= []/\(∀ y,¬ T y)/\h2=h/\Prm X.P wm rd ops o fr h v x C)
 (k:WE X n wm rd ops ⟨so ++ sf.s,to ++ sf.m,(p0.map fun q=>(m,q.1,q.2.1,q.2.2)).toList ++ sf.p⟩ (m + 1) h2 l (ZcP fr o.dst v) Q):WE X n wm rd ops sf m h (o::l) fr Q:=by
 obtain⟨gs,fs,vs,Ts,xs,ps,e0,e1,hq,hk⟩:=k;refine⟨fun k=>match k with | 0=>h | k + 1=>gs k,fun k=>match k with | 0=>fr | k + 1=>fs k,fun k=>match k with | 0=>v | k + 1=>vs k,fun k=>match k with | 0=>T | k + 1=>Ts k,fun k=>match k with | 0=>xs0 | k + 1=>xs k,fun k=>match k with | 0=>p0 | k + 1=>ps k,rfl,rfl,hq,fun k o' ho'=>?_⟩;cases k with
 | zero=>
   simp at ho';subst ho';dsimp only;rw [e0];refine⟨h1,e1,fun x tx hx i o' hi ho'=>?_,fun hh=>⟨c2 hh,fun i' hi'=>absurd hi' (Nat.not_lt_zero _)⟩,hp⟩;rcases c1 x tx hx i o' hi ho' with z | z | z | z
   ·exact .inl z
   ·exact .inr (.inl z)
   ·exact .inr (.inr (.inl z))
   ·exact .inr (.inr (.inr (.inl z)))
 | succ k=>
   obtain⟨k1,k2,k3,k4,k5⟩:=hk k o' (by simpa using ho');have e:m + 1 + k=m + (k + 1):=by omega
   rw [e] at k3 k4;dsimp only;refine⟨k1,k2,fun x tx hx i o' hi ho'=>?_,fun hh=>⟨fun q hq=>(k4 hh).1 q (List.mem_append.2 (.inr hq)),fun i' hi'=>?_⟩,k5⟩
   ·rcases k3 x tx hx i o' hi ho' with z | z | ⟨V,z1,z2⟩ | ⟨C,z1,z2⟩ | ⟨i',q1,q2,q3⟩
    ·exact .inl z
    ·exact .inr (.inl z)
    ·rcases List.mem_append.1 z1 with z1 | z1
     ·obtain⟨w1,w2⟩:=hso _ z1;dsimp only at w1 w2;subst w1;refine .inr (.inr (.inr (.inr ⟨0,rfl,Nat.succ_pos _,.inl ?_⟩)));dsimp only;rw [e0];exact w2 x z2
     ·exact .inr (.inr (.inl ⟨V,z1,z2⟩))
    ·rcases List.mem_append.1 z1 with z1 | z1
     ·cases p0 with
      | none=>simp at z1
      | some q=>
        simp at z1;obtain⟨w1,w2,w3,w4⟩:=z1;subst w1;exact .inr (.inr (.inr (.inr ⟨0,rfl,Nat.succ_pos _,.inr ⟨C,by show some q=_;rw [w2,w3,w4],z2⟩⟩)))
     ·exact .inr (.inr (.inr (.inl ⟨C,z1,z2⟩)))
    ·exact .inr (.inr (.inr (.inr ⟨i' + 1,by omega,by omega,q3⟩)))
   ·cases i' with
    | zero=>
      dsimp only;by_cases hc:Cmp ops (m + 0) (m + (k + 1))
      ·exact .inl hc
      ·refine .inr fun x tx hx=>?_
       obtain⟨q,q1,q2,q3⟩:=hto x tx hx;rcases(k4 hh).1 q (List.mem_append.2 (.inl q1)) with z | z
       ·rw [q2] at z;exact absurd z hc
       ·exact z x q3
    | succ i'=>
      have:= (k4 hh).2 i' (by omega);have e2:m + 1 + i'=m + (i' + 1):=by omega
      rw [e2] at this;exact this
theorem WC.ZVy (hm:X.P.follows .mixedOrders=true) {id:Nat} {R:XX ->Fs ->Prop} (hp:(plan ops.toList).isSome=true) (k:WE X n wm rd ops ST.nil 0 h ops.toList fr (fun fr' h'=>R .normal ⟨fr',ds,h',none⟩)):WC X n wm rd (.region id ops true) ⟨fr,ds,h,none⟩ R:=by
 obtain⟨gs,fs,vs,ts,xs,ps,e0,e1,hq,hk⟩:=k;obtain⟨Xz,hp⟩:=Option.isSome_iff_exists.1 hp;refine⟨.normal,_,hq,fun ρ a w F Ye hi hF=>?_⟩;unfold plan ZAr at hp;cases hall:(U4 Zkb ops.toList 0 && U4 (Zjq ops.toList (Jj ops.toList 0 [])) ops.toList 0 && U4 (Zrw ops.toList) ops.toList 0) <;> rw [hall] at hp <;> simp only [Cq1,Cq0] at hp
 ·cases hp
 rw [Ba0,Ba0] at hall;obtain⟨⟨Zjz,Zjy⟩,hdst⟩:=hall;have Zjz:=QB _ _ Zjz;have Zjy:=QB _ _ Zjy;have hdst:=QB _ _ hdst;have hget:∀ {k:Nat} {o:Oper},ops[k]? =some o ->ops.toList[k]? =some o:=fun h=>by rwa [Array.getElem?_toList]
 have hspec:= (Zhy ops.toList 0 [] rfl).2
 have hwk:∀ k,k <=ops.size ->wm <= (gs k).size:=by
  intro k
  induction k with
  | zero=>intro _;rw [e0];exact Ye
  | succ k ih=>
    intro hk';have hlt:k < ops.size:=by omega
    have ho:ops.toList[k]? =some ops[k]:=by simp [hlt]
    obtain⟨h1,q1,_,q3⟩:= (hk k _ ho).1.run (ih (by omega));have q2:=q3.size;rw [Yc] at q2;have:=ih (by omega);rw [q1,X6];omega
 have hlt:∀ {k:Nat} {o:Oper},ops[k]? =some o ->k < ops.size:=fun h=>(Array.getElem?_eq_some_iff.1 h).1
 have hco:∀ {k:Nat} (hl:k < ops.size),ops.toList[k]? =some ops[k]:=fun hl=>by simp [hl]
 classical
 let sft:Nat ->Option (Nat×Nat):=fun i=>match ps i with
  | none=>none
  | some (x,j,C)=>if i < j/\j < ops.size/\ts j x/\C ((gs (j + 1)).at x) then some (x,j) else none
 have Zzn:∀ i x j,sft i=some (x,j) ->∃ C,ps i=some (x,j,C)/\i < j/\j < ops.size/\ts j x/\C ((gs (j + 1)).at x):=by
  intro i x j e;dsimp only [sft] at e;cases hp:ps i with
  | none=>rw [hp] at e;cases e
  | some q=>
    obtain⟨y,j',C⟩:=q;rw [hp] at e;dsimp only at e;split at e
    ·rename_i hh;cases e;exact⟨C,rfl,hh⟩
    ·cases e
 let D:Data X.P n wm rd ops:= {
  hs:=gs,fs:=fs,vs:=vs,mo:=ts,Xs:=xs,soft:=sft,hl:=fun i=>hlAt ops.toList i,Pb:=fun j k=>bit ((Jj ops.toList 0 []).getD j 0) k=true
  ZpM:=hwk 0 (Nat.zero_le _)
  step:=fun k o ho=>by
   obtain⟨h1,q1,q2,q3⟩:= (hk k o (hget ho)).1.run (hwk _ (Nat.le_of_lt (hlt ho)));exact⟨h1,q2,q3,q1,(hk k o (hget ho)).2.1⟩
  wmM:=fun k x hkl hx=>(hk k _ (hco hkl)).1.wmT x hx
  dst:=fun k o d ho hd=>(hk k o (hget ho)).1.dst d hd
  ZfC:=fun j k hb=>by
   obtain⟨o,ho,e,he,hb,hk⟩:=hspec j k (Nat.zero_le _) hb;exact⟨o,e,by rw [<- Array.getElem?_toList];simpa using ho,by simpa using he,hb,hk⟩
  Zru:=fun j o e ho he hb=>by
   have:=Zjz j o (hget ho);unfold Zkb at this;rw [List.all_eq_true] at this;have:=this e (by simpa using he);rw [hb] at this
   simpa [Nat.blt_eq] using this
  inc:=fun i j hil hjl hij h1 h2 hhl x hx hxs=>by
   have nc:¬ Cmp ops i j:=fun q=>by
    rcases Zf5 q with y | y
    ·exact h1 y
    ·exact h2 y
   have hh:YL ops[i]=false:=by
    have:hlAt ops.toList i=false:=hhl;unfold hlAt at this;rw [hco hil] at this;exact this
   rcases Nat.lt_or_ge i j with hlt' | hge
   ·have:= (hk j _ (hco hjl)).2.2.1 x hx hxs i _ (by omega) (hco hil);rw [Nat.zero_add] at this;rcases this with q | q | ⟨V,q,_⟩ | ⟨C,q,_⟩ | ⟨i',q1,q2,q3⟩
    ·exact absurd q nc
    ·rw [hh] at q;cases q
    ·simp [ST.nil] at q
    ·simp [ST.nil] at q
    ·rw [Nat.zero_add] at q1;subst q1;rcases q3 with q3 | ⟨C,q3,q4⟩
     ·exact q3.imp (fun z=>⟨z.1,.inl z.2⟩) (fun z=>z)
     ·left;have hpr:= (hk i _ (hco hil)).2.2.2.2 x j C q3;refine⟨hpr.2.2.2.1,.inr ?_⟩;dsimp only [sft];rw [q3];dsimp only;rw [if_pos ⟨q2,hjl,hx,q4⟩]
   ·have:= ((hk i _ (hco hil)).2.2.2.1 hh).2 j (by omega);rw [Nat.zero_add,Nat.zero_add] at this;rcases this with q | q
    ·exact absurd (by unfold Cmp;rw [ZDR hij];exact q) nc
    ·exact(q x hx hxs).imp (fun z=>⟨z.1,.inl z.2⟩) (fun z=>z)
  ZLY:=fun i o ho hh=>by
   have hq:YL o=true:=by unfold hlAt at hh;rw [hget ho] at hh;exact hh
   obtain⟨z1,z2,z3⟩:= (hk i o (hget ho)).1.hl hq;exact⟨z1,by rw [z2],z3⟩
  Zsr:=fun i o x j ho hh=>by
   obtain⟨C,s1,s2,s3,s4,s5⟩:=Zzn i x j hh;obtain⟨z0,z1,z2,z3,z4,z5,z6⟩:= (hk i o (hget ho)).2.2.2.2 x j C s1;obtain⟨w1,w2⟩:=z6 _ s5;exact⟨s2,s3,z3,z1,by rw [z2],z4,w1,by rw [z0];exact z5,by rw [z0];exact w2⟩
  MX:=fun i x hil hx hxs=>(hk i _ (hco hil)).1.mx x hx hxs
  looks:=fun i o t ho ht k o' ho' hd=>by
   have:=Zjy i o (hget ho);unfold Zjq at this;rw [List.all_eq_true] at this;have:=QB _ _ (this t ht) k o' (hget ho');rw [Zin.2 hd] at this;simp only [Cq1,Bool.or_eq_true,Nat.zero_add] at this;rcases this with z | z
   ·exact .inl (Nb0 z)
   ·exact .inr (Zf5 z)
  ZHj:=fun i j o o' t ho ho' hd hd'=>by
   have:=hdst i o (hget ho);unfold Zrw at this;rw [hd] at this;have:=QB _ _ this j o' (hget ho');rw [Zin.2 hd'] at this;simp only [Cq1,Nat.zero_add] at this;exact(Nb0 this).symm}
 have hi2:Inv ρ n {fr:=D.fs 0,ds:=ds,h:=D.hs 0} a w:= ⟨by show Rel ρ (gs 0) w;rw [e0];exact hi.rel,by show FrR ρ (fs 0) n a.tmps;rw [e1];exact hi.fr,hi.ds⟩
 have:=D.region hm hi2 hF id;have hlen:ops.toList.length=ops.size:=by simp
 rw [hlen];refine wpIn_mono this fun e' a' w' ⟨ρ',q1,q2,q3⟩=>⟨ρ',q1,⟨q2.rel,q2.fr,q2.ds⟩,?_⟩
 have e0':D.hs 0=h:=e0;rw [e0'] at q3;exact q3
end
section
variable {X:Ctx} {n wm:Nat} {rd:Option Nat} {ops:Array Oper} {l:List Oper} {fr:Fr} {ds:List Deferred} {h h1 h2 h0:H} {ty:TypeId} {p:String} {af:Array Edge} {g:Option (Nat×Bool)} {m:Nat}
theorem Zbd {d:Option Tmp} {op:Op} {v:Value} {E:Eff} (hg:YO ops ⟨d,op,ty,p,af,g⟩ fr) (ha:Qw X h (Xf fr) ⟨d,op,ty,p,af,g⟩=some (.val v,E)\/Qw X h (Xf fr) ⟨d,op,ty,p,af,g⟩=some (.skip,E)/\v=undef) (hE:E.apply wm h=some h1):
 JK X.P wm rd ops ⟨d,op,ty,p,af,g⟩ (fun x=>E.tgt=some x) fr h v h1/\(wm <=h.size ->WT (fun x=>E.tgt=some x) h h1)/\(wm <=h.size ->∀ x,E.tgt=some x ->wm <=x):=by
 have hds:U9 X (fun _=>true) (fun _=>none) ((d.getD 0) + 1) wm none false ops.toList ⟨d,op,ty,p,af,g⟩ fr h=some (E.tgt,v,h1):=by
  unfold U9;dsimp only;rw [hg.1,hg.2];cases d with
  | none=>
    rcases ha with ha | ⟨ha,rfl⟩
    ·rw [ha];dsimp only [Bool.not_true,Cq0,Cq1];rw [hE];rfl
    ·rw [ha];dsimp only [Bool.not_true,Cq0,Cq1];rw [hE];rfl
  | some d'=>
    have:Nat.blt d' (d' + 1)=true:=by rw [Nat.blt_eq];omega
    have e2:(Nat.blt d' ((some d').getD 0 + 1) && allowed none d')=true:=by dsimp only [Option.getD];rw [this];rfl
    dsimp only at e2 |-;rw [e2];rcases ha with ha | ⟨ha,rfl⟩
    ·rw [ha];dsimp only [Bool.not_true,Cq0,Cq1];rw [hE];rfl
    ·rw [ha];dsimp only [Bool.not_true,Cq0,Cq1];rw [hE];rfl
 have e1:MOf false wm E.tgt=fun x=>E.tgt=some x:=ZWV wm E.tgt
 refine⟨?_,fun hw=>?_,fun hw x hx=>?_⟩
 ·rw [<- e1];exact Ke (ZfF X) ZdN hds
 ·rw [<- e1];exact(JS ZdN hds hw).1
 ·exact(JS ZdN hds hw).2.1 x (by rw [e1];exact hx)
theorem ZmA {o:Oper} {f:FuncId} {args:Array Value} {wm':Nat} {v:Value} (hg:YO ops o fr) (ha:Qw X h (Xf fr) o=some (.enter f args,.none)) (hl:wm' <=h.size) (hj:XK X (.call f args wm' h) (.fin (.ret v) h2)):
 JK X.P wm rd ops o (fun x=>wm' <=x/\(h.at x).own=true) fr h v h2:=by
 intro ρ a w F K Q r Ye hf hF hK;rw [Zdv ops o hf hg.1,hg.2,if_pos rfl];obtain⟨ev2,e1,e2⟩:=ZhG ops o hf ha;obtain⟨ρ1,w1,p1,p2,p3⟩:=Zd3 r e1 e2;have hE:Eff.apply wm h .none=some h:=rfl;obtain⟨r1,st1⟩:=Eff.sound r Ye p1 hE p2;obtain⟨sm,km,ZBs⟩:=Eff.ZQv r Ye p1 hE p2;refine⟨fun f _=>ZbB hF f,?_⟩
 have ZBu:o.semAt F.round a.eval=execOp a.eval o:=by
  cases hrd:rd with
  | none=>rw [hrd] at hF;unfold FR' at hF;subst hF;rfl
  | some l=>
    refine Oper.semAt_eq _ _ _ fun c hc=>?_
    obtain⟨d,h1⟩:=Zhn ha hc;simp at h1
 rw [ZBu];have ZGt:F.depth.isSome=true ->1 <=0:=fun hh=>by rw [ZaQ hF] at hh;cases hh
 have hF1:=hF.mono st1.ext;generalize hrun:(execOp a.eval o).run X.P w=res at p3;obtain⟨args',hva,rfl⟩:=p3;refine⟨ZGt,(JN hF1 (hj ρ1 args' w1 hl r1 hva)).mono ?_⟩;rintro e' w' ⟨ρ',he,hr,hst⟩;cases he with
 | @ret _ v' hv=>
   have st2:Zac (fun x=>wm' <=x/\(h.at x).own=true) ρ1 h w1 ρ' w':=hst.toM.Zlv (fun i _ h2 h3=>⟨h2,h3⟩) r1.lt;have toM:Zac (fun x=>wm' <=x/\(h.at x).own=true) ρ h w ρ1 w1:=sm.weaken (fun i _ hi=>by cases hi) r.lt;exact hK ρ' v' w' hv hr (toM.trans r.lt (Nat.le_refl _) (fun _ _ z=>z) st2)
structure WX (X:Ctx) (n wm:Nat) (rd:Option Nat) (ops:Array Oper) (sf:ST) (m:Nat) (h:H) (l:List Oper) (fr:Fr) (Q:Fr ->H ->Prop):Prop where
 out:(∀ q ∈ sf.m,∀ x,q.2 x ->x < h.size) ->WE X n wm rd ops sf m h l fr Q
variable {sf:ST} {Q:Fr ->H ->Prop}
theorem WC.YJ (hm:X.P.follows .mixedOrders=true) {id:Nat} {R:XX ->Fs ->Prop} (hp:(plan ops.toList).isSome=true) (k:WX X n wm rd ops ST.nil 0 h ops.toList fr (fun fr' h'=>R .normal ⟨fr',ds,h',none⟩)):WC X n wm rd (.region id ops true) ⟨fr,ds,h,none⟩ R:=
 WC.ZVy hm hp (k.out fun q hq=>by simp [ST.nil] at hq)
theorem WX.nil (k:Q fr h):WX X n wm rd ops sf m h [] fr Q:= ⟨fun _=>WE.nil k⟩
def okM (ops:Array Oper) (sf:ST) (m:Nat) (o:Oper):Bool:= (sf.m.all fun q=>comp (Jj ops.toList 0 []) q.1 m) || YL o
theorem Wt {o:Oper} (h:okM ops sf m o=true):YL o=false ->∀ q ∈ sf.m,Cmp ops q.1 m:=fun hh q hq=>by
 unfold okM at h;rw [hh,Bool.or_false,List.all_eq_true] at h;exact h q hq
def okB (ops:Array Oper) (m:Nat) (is:List Nat):Bool:=U4 (fun i o=>Nat.ble m i || comp (Jj ops.toList 0 []) i m || YL o || is.any (Nat.beq i)) ops.toList 0
theorem Zqb {is:List Nat} (h:okB ops m is=true) {i:Nat} {o:Oper} (hi:i < m) (ho:ops.toList[i]? =some o):Cmp ops i m\/YL o=true\/i ∈ is:=by
 have:=QB _ _ h i o ho;rw [Nat.zero_add,Bool.or_eq_true,Bool.or_eq_true,Bool.or_eq_true] at this;rcases this with((q | q) | q) | q
 ·have:=Nl0 q;omega
 ·exact .inl q
 ·exact .inr (.inl q)
 ·rw [List.any_eq_true] at q;obtain⟨y,q1,q2⟩:=q;have e:=Nb0 q2;subst e;exact .inr (.inr q1)
theorem WO.w {Q:XX ->Fs ->Prop} {d:Nat} {op:Op} {v:Value} (hg:YO ops ⟨some d,op,ty,p,af,g⟩ fr) (hd:Nat.blt d n=true) (ha:Qw X h (Xf fr) ⟨some d,op,ty,p,af,g⟩=some (.val v,.none)) (k:WO X n wm rd ops l ⟨Tr.set fr d v,ds,h,none⟩ Q):
 WO X n wm rd ops (⟨some d,op,ty,p,af,g⟩::l) ⟨fr,ds,h,none⟩ Q:=WO.v hg hd ha rfl k
theorem WX.w {d:Nat} {op:Op} {v:Value} (hg:YO ops ⟨some d,op,ty,p,af,g⟩ fr) (hd:Nat.blt d n=true) (ha:Qw X h (Xf fr) ⟨some d,op,ty,p,af,g⟩=some (.val v,.none)) (k:WX X n wm rd ops sf (m + 1) h l (Tr.set fr d v) Q) (hM:okM ops sf m ⟨some d,op,ty,p,af,g⟩=true):
 WX X n wm rd ops sf m h (⟨some d,op,ty,p,af,g⟩::l) fr Q:=by
 refine⟨fun hb=>WE.cons (T:=fun _=>False) (xs0:= []) (v:=v) [] [] none ?_ (fun _ z=>by simp at z) (fun _ z=>z.elim) (fun _ z=>z.elim) (fun hh q hq=>.inl (Wt hM hh q hq)) (fun x j C z=>by cases z) (k.out hb)⟩
 have hs:∀ h',Qw X h' (Xf fr) ⟨some d,op,ty,p,af,g⟩=some (.val v,.none) ->JK X.P wm rd ops ⟨some d,op,ty,p,af,g⟩ (fun _=>False) fr h' v h':=fun h' ha'=>by
  have:= (Zbd (wm:=wm) (rd:=rd) hg (.inl ha') (h1:=h') rfl).1
  simpa [Eff.tgt] using this
 refine⟨fun hw=>⟨h,rfl,hs h ha,⟨Nat.le_refl _,fun _ _ _=>rfl,fun _ _ z=>z,fun _ _ z=>z⟩⟩,fun _ z=>z.elim,fun d' e=>(by cases e;rwa [Nat.blt_eq] at hd),fun hh=>⟨fun _ z=>z,rfl,fun g=>hs g ?_⟩,fun _ z=>z.elim⟩;rw [Zge h g hh];exact ha
theorem WX.off {d:Nat} {op:Op} (hg:Zgj ops ⟨some d,op,ty,p,af,g⟩ fr) (hd:Nat.blt d n=true) (k:WX X n wm rd ops sf (m + 1) h l (Tr.set fr d undef) Q) (hM:okM ops sf m ⟨some d,op,ty,p,af,g⟩=true):
 WX X n wm rd ops sf m h (⟨some d,op,ty,p,af,g⟩::l) fr Q:=by
 refine⟨fun hb=>WE.cons (T:=fun _=>False) (xs0:= []) (v:=undef) [] [] none ?_ (fun _ z=>by simp at z) (fun _ z=>z.elim) (fun _ z=>z.elim) (fun hh q hq=>.inl (Wt hM hh q hq)) (fun x j C z=>by cases z) (k.out hb)⟩
 have hs:∀ h',JK X.P wm rd ops ⟨some d,op,ty,p,af,g⟩ (fun _=>False) fr h' undef h':=fun h'=>by
  have hds:U9 X (fun _=>true) (fun _=>none) (d + 1) wm none false ops.toList ⟨some d,op,ty,p,af,g⟩ fr h'=some (none,undef,h'):=by
   unfold U9;dsimp only;have:Nat.blt d (d + 1)=true:=by rw [Nat.blt_eq];omega
   rw [this,hg.1,hg.2];rfl
  have:=Ke (rd:=rd) (ZfF X) ZdN hds
  rwa [ZEJ] at this
 exact⟨fun hw=>⟨h,rfl,hs h,⟨Nat.le_refl _,fun _ _ _=>rfl,fun _ _ z=>z,fun _ _ z=>z⟩⟩,fun _ z=>z.elim,fun d' e=>(by cases e;rwa [Nat.blt_eq] at hd),fun hh=>⟨fun _ z=>z,rfl,fun g=>hs g⟩,fun _ z=>z.elim⟩
theorem WX.gv {d:Nat} {op:Op} {c:Bool} {v:Value} (hg:Zf ops ⟨some d,op,ty,p,af,g⟩ fr c) (hd:Nat.blt d n=true) (ha:c=true ->Qw X h (Xf fr) ⟨some d,op,ty,p,af,g⟩=some (.val v,.none)) (k:WX X n wm rd ops sf (m + 1) h l (Tr.set fr d (cond c v undef)) Q) (hM:okM ops sf m ⟨some d,op,ty,p,af,g⟩=true):
 WX X n wm rd ops sf m h (⟨some d,op,ty,p,af,g⟩::l) fr Q:=by
 cases c
 ·exact WX.off hg hd k hM
 ·exact WX.w hg hd (ha rfl) k hM
open Classical in
def Qo (h:H) (R:Nat ->Prop):List Nat:= (List.range h.size).filter fun x=>decide (¬ R x)
theorem Zb8 {h:H} {R:Nat ->Prop} {x:Nat}:x ∈ Qo h R↔x < h.size/\¬ R x:=by unfold Qo;simp
theorem ZCb {R:Nat ->Prop} {x:Nat} (hx:R x):(mask (Qo h R) h).at x=h.at x:=by rw [QO,if_neg (fun z=>(Zb8.1 z).2 hx)]
theorem Up.hide (lo:Nat) (Y:List Nat) (h:H):Up lo (fun _=>False) h (Jh Y h (mask Y h)):=
 ⟨by rw [X6,Yc];exact Nat.le_refl _,fun i hi _=>by
   rw [JG _ _ _ (by rw [Yc];exact Nat.le_refl _),QO];by_cases hy:i ∈ Y
   ·rw [if_pos ⟨hy,hi⟩]
   ·rw [if_neg (fun q=>hy q.1),if_neg hy],fun _ e=>e.elim⟩
theorem WX.wr {T0:Nat ->Prop} {G:List (Ast wm)} {d:Nat} {op:Op} {v:Value} (R:Nat ->Prop) (hS:Sp wm T0 h0 G h) (hg:YO ops ⟨some d,op,ty,p,af,g⟩ fr) (hd:Nat.blt d n=true) (ha:∀ g':H,g'.size=h.size ->(∀ x,R x ->g'.at x=h.at x) ->Qw X g' (Xf fr) ⟨some d,op,ty,p,af,g⟩=some (.val v,.none))
 (k:∀ h',h'.size=h.size ->Sp wm T0 h0 G h' ->WX X n wm rd ops ⟨(m,fun x=>¬ R x)::sf.s,sf.m,sf.p⟩ (m + 1) h' l (Tr.set fr d v) Q) (hh:YL ⟨some d,op,ty,p,af,g⟩=false) (hM:okM ops sf m ⟨some d,op,ty,p,af,g⟩=true):
 WX X n wm rd ops sf m h (⟨some d,op,ty,p,af,g⟩::l) fr Q:=by
 have hsz:(Jh (Qo h R) h (mask (Qo h R) h)).size=h.size:=by rw [X6,Yc]
 refine⟨fun hb=>WE.cons (T:=fun _=>False) (xs0:=Qo h R) (h2:=Jh (Qo h R) h (mask (Qo h R) h)) (v:=v) [(m,fun x=>¬ R x)] [] none ?_ (fun q hq=>?_) (fun _ z=>z.elim) (fun _ z=>z.elim) (fun hh q hq=>.inl (Wt hM hh q hq)) (fun x j C z=>by cases z) ((k _ hsz (hS.up (Up.hide wm _ h))).out fun q hq x hx=>by rw [hsz];exact hb q hq x hx)⟩
 ·have:=Zbd (wm:=wm) (rd:=rd) hg (.inl (ha _ (Yc _ _) fun x hx=>ZCb hx)) (h1:=mask (Qo h R) h) rfl;have t0:(fun x:Nat=>Eff.tgt Eff.none=some x)=fun _=>False:=by funext x;simp [Eff.tgt]
  rw [t0] at this;exact⟨fun hw=>⟨_,rfl,this.1,this.2.1 (by rw [Yc];exact hw)⟩,fun _ z=>z.elim,fun d' e=>(by cases e;rwa [Nat.blt_eq] at hd),fun q=>Bool.noConfusion (hh.symm.trans q),fun _ z=>z.elim⟩
 ·rw [List.mem_singleton.1 hq];refine⟨rfl,fun x hx=>?_⟩;rcases Nat.lt_or_ge x h.size with z | z
  ·exact .inl ⟨z,Zb8.2 ⟨z,hx⟩⟩
  ·exact .inr (by rw [hsz];exact z)
def HV (X:Ctx) (wm:Nat) (o:Oper) (fr:Fr) (h:H) (T:Nat ->Prop) (K:Value ->H ->Prop):Prop:=∃ v E h1,Qw X h (Xf fr) o=some (.val v,E)/\E.apply wm h=some h1/\(∀ x,E.tgt=some x ->T x)/\h.size <=h1.size/\K v h1
def HU (X:Ctx) (wm:Nat) (o:Oper) (fr:Fr) (h:H) (T:Nat ->Prop) (K:H ->Prop):Prop:=∃ E h1,Qw X h (Xf fr) o=some (.skip,E)/\E.apply wm h=some h1/\(∀ x,E.tgt=some x ->T x)/\h.size <=h1.size/\K h1
theorem WO.hv {Q:XX ->Fs ->Prop} {d:Nat} {op:Op} {T:Nat ->Prop} {K:Value ->H ->Prop} (hg:YO ops ⟨some d,op,ty,p,af,g⟩ fr) (hd:Nat.blt d n=true) (s:HV X wm ⟨some d,op,ty,p,af,g⟩ fr h T K) (k:∀ v h',K v h' ->WO X n wm rd ops l ⟨Tr.set fr d v,ds,h',none⟩ Q):
 WO X n wm rd ops (⟨some d,op,ty,p,af,g⟩::l) ⟨fr,ds,h,none⟩ Q:=let⟨v,_,h1,ha,hE,_,_,hk⟩:=s;WO.v hg hd ha hE (k v h1 hk)
theorem WO.hu {Q:XX ->Fs ->Prop} {op:Op} {T:Nat ->Prop} {K:H ->Prop} (hg:YO ops ⟨none,op,ty,p,af,g⟩ fr) (s:HU X wm ⟨none,op,ty,p,af,g⟩ fr h T K) (k:∀ h',K h' ->WO X n wm rd ops l ⟨fr,ds,h',none⟩ Q):
 WO X n wm rd ops (⟨none,op,ty,p,af,g⟩::l) ⟨fr,ds,h,none⟩ Q:=let⟨_,h1,ha,hE,_,_,hk⟩:=s;WO.u hg ha hE (k h1 hk)
def YR (sf:ST) (T:Nat ->Prop) (is:List Nat):Prop:=∀ i ∈ is,∃ V,(i,V) ∈ sf.s/\∀ x,T x ->V x
theorem YR.e {T:Nat ->Prop}:YR sf T []:=fun _ z=>by simp at z
inductive Zyi (i:Nat) (V:Nat ->Prop):List (Nat×(Nat ->Prop)) ->Prop
 | z {r:List (Nat×(Nat ->Prop))}:Zyi i V ((i,V)::r)
 | s {q:Nat×(Nat ->Prop)} {r:List (Nat×(Nat ->Prop))}:Zyi i V r ->Zyi i V (q::r)
theorem Zyi.mem {i:Nat} {V:Nat ->Prop} {r:List (Nat×(Nat ->Prop))} (h:Zyi i V r):(i,V) ∈ r:=by
 induction h with
 | z=>simp
 | s _ ih=>simp [ih]
theorem YR.c {T V:Nat ->Prop} {i:Nat} {is:List Nat} (hm:Zyi i V sf.s) (hv:∀ x,T x ->V x) (b:YR sf T is):YR sf T (i::is):=fun j hj=>by
 rcases List.mem_cons.1 hj with z | z
 ·subst z;exact⟨V,hm.mem,hv⟩
 ·exact b j z
theorem ZBt {d:Option Tmp} {op:Op} {v:Value} {T:Nat ->Prop} {E:Eff} (hg:YO ops ⟨d,op,ty,p,af,g⟩ fr) (hd:∀ d',d=some d' ->d' < n) (ha:Qw X h (Xf fr) ⟨d,op,ty,p,af,g⟩=some (.val v,E)\/Qw X h (Xf fr) ⟨d,op,ty,p,af,g⟩=some (.skip,E)/\v=undef) (hE:E.apply wm h=some h1) (hT:∀ x,E.tgt=some x ->T x) (hsz:h.size <=h1.size)
 (k:WX X n wm rd ops ⟨sf.s,(m,fun x=>T x/\x < h.size)::sf.m,sf.p⟩ (m + 1) h1 l (ZcP fr d v) Q) (hh:YL ⟨d,op,ty,p,af,g⟩=false) (hM:okM ops sf m ⟨d,op,ty,p,af,g⟩=true) (is:List Nat) (hB:okB ops m is=true) (hi:YR sf T is):
 WX X n wm rd ops sf m h (⟨d,op,ty,p,af,g⟩::l) fr Q:=by
 refine⟨fun hb=>?_⟩;by_cases hw:wm <=h.size
 ·have hs:=Zbd (wm:=wm) (rd:=rd) hg ha hE
  refine WE.cons (T:=fun x=>E.tgt=some x) (xs0:= []) (h2:=h1) (v:=v) [] [(m,fun x=>T x/\x < h.size)] none ⟨fun _=>⟨h1,rfl,hs.1,hs.2.1 hw⟩,hs.2.2 hw,hd,fun q=>Bool.noConfusion (hh.symm.trans q),fun _ _ _ z=>by simp at z⟩ (fun _ z=>by simp at z) (fun x hx hl=>⟨_,List.mem_singleton.2 rfl,rfl,hT x hx,hl⟩)
   (fun x hx hl i o' hi' ho'=>?_) (fun hh q hq=>.inl (Wt hM hh q hq)) (fun x j C z=>by cases z) (k.out fun q hq x hx=>?_)
  ·rcases Zqb hB hi' ho' with z | z | z
   ·exact .inl z
   ·exact .inr (.inl z)
   ·obtain⟨V,q1,q2⟩:=hi i z;exact .inr (.inr (.inl ⟨V,q1,q2 x (hT x hx)⟩))
  ·rcases List.mem_cons.1 hq with z | z
   ·subst z;exact Nat.lt_of_lt_of_le hx.2 hsz
   ·exact Nat.lt_of_lt_of_le (hb q z x hx) hsz
 ·refine WE.cons (T:=fun _=>False) (xs0:= []) (h2:=h1) (v:=v) [] [(m,fun x=>T x/\x < h.size)] none ⟨fun z=>absurd z hw,fun _ z=>z.elim,hd,fun q=>Bool.noConfusion (hh.symm.trans q),fun _ z=>z.elim⟩ (fun _ z=>by simp at z) (fun x hx hl=>hx.elim)
   (fun x hx=>hx.elim) (fun hh q hq=>.inl (Wt hM hh q hq)) (fun x j C z=>by cases z) (k.out fun q hq x hx=>?_)
  rcases List.mem_cons.1 hq with z | z
  ·subst z;exact Nat.lt_of_lt_of_le hx.2 hsz
  ·exact Nat.lt_of_lt_of_le (hb q z x hx) hsz
theorem WX.hv {d:Nat} {op:Op} {T:Nat ->Prop} {K:Value ->H ->Prop} (hg:YO ops ⟨some d,op,ty,p,af,g⟩ fr) (hd:Nat.blt d n=true) (s:HV X wm ⟨some d,op,ty,p,af,g⟩ fr h T K)
 (k:∀ v h',K v h' ->WX X n wm rd ops ⟨sf.s,(m,fun x=>T x/\x < h.size)::sf.m,sf.p⟩ (m + 1) h' l (Tr.set fr d v) Q) (hh:YL ⟨some d,op,ty,p,af,g⟩=false) (hM:okM ops sf m ⟨some d,op,ty,p,af,g⟩=true) (is:List Nat) (hB:okB ops m is=true) (hi:YR sf T is):
 WX X n wm rd ops sf m h (⟨some d,op,ty,p,af,g⟩::l) fr Q:=
 let⟨v,_,h1,ha,hE,hT,hz,hk⟩:=s;ZBt hg (fun d' e=>by cases e;rwa [Nat.blt_eq] at hd) (.inl ha) hE hT hz (k v h1 hk) hh hM is hB hi
theorem WX.hu {op:Op} {T:Nat ->Prop} {K:H ->Prop} (hg:YO ops ⟨none,op,ty,p,af,g⟩ fr) (s:HU X wm ⟨none,op,ty,p,af,g⟩ fr h T K)
 (k:∀ h',K h' ->WX X n wm rd ops ⟨sf.s,(m,fun x=>T x/\x < h.size)::sf.m,sf.p⟩ (m + 1) h' l fr Q) (hh:YL ⟨none,op,ty,p,af,g⟩=false) (hM:okM ops sf m ⟨none,op,ty,p,af,g⟩=true) (is:List Nat) (hB:okB ops m is=true) (hi:YR sf T is):
 WX X n wm rd ops sf m h (⟨none,op,ty,p,af,g⟩::l) fr Q:=
 let⟨_,h1,ha,hE,hT,hz,hk⟩:=s;ZBt (v:=undef) hg (fun d' e=>by cases e) (.inr ⟨ha,rfl⟩) hE hT hz (k h1 hk) hh hM is hB hi
theorem ZvP (h:H) {A:Qj} (hA:A.own=true):Eff.apply wm h (.new A)=some (h.push A):=by show(bif A.own then some (h.push A) else none)=_;rw [hA];rfl
def HN (X:Ctx) (wm:Nat) (o:Oper) (fr:Fr) (h:H) (K:Value ->H ->Prop):Prop:=∃ v A,A.own=true/\(∀ g:H,g.size=h.size ->Qw X g (Xf fr) o=some (.val v,.new A))/\∀ h',Up wm (fun _=>False) h h' ->h'.at h.size=A ->h'.size=h.size + 1 ->K v h'
theorem WO.hn {Q:XX ->Fs ->Prop} {d:Nat} {op:Op} {K:Value ->H ->Prop} (hg:YO ops ⟨some d,op,ty,p,af,g⟩ fr) (hd:Nat.blt d n=true) (s:HN X wm ⟨some d,op,ty,p,af,g⟩ fr h K) (k:∀ v h',K v h' ->WO X n wm rd ops l ⟨Tr.set fr d v,ds,h',none⟩ Q):
 WO X n wm rd ops (⟨some d,op,ty,p,af,g⟩::l) ⟨fr,ds,h,none⟩ Q:=let⟨v,A,hA,ha,hk⟩:=s;WO.v hg hd (ha h rfl) (ZvP h hA) (k v _ (hk _ (Up.push wm h A) (JP h A) (by simp)))
theorem WX.hn {d:Nat} {op:Op} {K:Value ->H ->Prop} (hg:YO ops ⟨some d,op,ty,p,af,g⟩ fr) (hd:Nat.blt d n=true) (s:HN X wm ⟨some d,op,ty,p,af,g⟩ fr h K) (k:∀ v h',K v h' ->WX X n wm rd ops ⟨(m,fun x=>x ≠ h.size)::sf.s,sf.m,sf.p⟩ (m + 1) h' l (Tr.set fr d v) Q) (hh:YL ⟨some d,op,ty,p,af,g⟩=false):
 WX X n wm rd ops sf m h (⟨some d,op,ty,p,af,g⟩::l) fr Q:=by
 obtain⟨v,A,hA,ha,hk⟩:=s;have hmm:∀ x,x ∈ Qo h (fun _=>False)↔x < h.size:=fun x=>by rw [Zb8];simp
 have hsz:(Jh (Qo h fun _=>False) h ((mask (Qo h fun _=>False) h).push A)).size=h.size + 1:=by rw [X6,H.size_push,Yc]
 have hle:h.size <= ((mask (Qo h fun _=>False) h).push A).size:=by rw [H.size_push,Yc];omega
 have hu:Up wm (fun _=>False) h (Jh (Qo h fun _=>False) h ((mask (Qo h fun _=>False) h).push A)):=
  ⟨by rw [hsz];omega,fun i hi _=>by rw [JG _ _ _ hle,if_pos ⟨(hmm i).2 hi,hi⟩],fun _ e=>e.elim⟩
 have hat:(Jh (Qo h fun _=>False) h ((mask (Qo h fun _=>False) h).push A)).at h.size=A:=by
  rw [JG _ _ _ hle,if_neg (fun q=>Nat.lt_irrefl _ q.2)];have:=JP (mask (Qo h fun _=>False) h) A
  rwa [Yc] at this
 refine⟨fun hb=>WE.cons (T:=fun _=>False) (xs0:=Qo h fun _=>False) (v:=v) [(m,fun x=>x ≠ h.size)] [] none ?_ (fun q hq=>?_) (fun _ z=>z.elim) (fun _ z=>z.elim) (fun _ q hq=>.inr fun x hx=>?_) (fun x j C z=>by cases z)
  ((k v _ (hk _ hu hat hsz)).out fun q hq x hx=>by rw [hsz];exact Nat.lt_succ_of_lt (hb q hq x hx))⟩
 ·have:=Zbd (wm:=wm) (rd:=rd) hg (.inl (ha _ (Yc _ _))) (h1:= (mask (Qo h fun _=>False) h).push A) (ZvP _ hA);have t0:(fun x:Nat=>Eff.tgt (Eff.new A)=some x)=fun _=>False:=by funext x;simp [Eff.tgt]
  rw [t0] at this;exact⟨fun hw=>⟨_,rfl,this.1,this.2.1 (by rw [Yc];exact hw)⟩,fun _ z=>z.elim,fun d' e=>(by cases e;rwa [Nat.blt_eq] at hd),fun q=>Bool.noConfusion (hh.symm.trans q),fun _ z=>z.elim⟩
 ·rw [List.mem_singleton.1 hq];refine⟨rfl,fun x hx=>?_⟩;rcases Nat.lt_or_ge x h.size with z | z
  ·exact .inl ⟨z,(hmm x).2 z⟩
  ·right;rw [hsz];have:x ≠ h.size:=hx;omega
 ·exact .inl ⟨hb q hq x hx,(hmm x).2 (hb q hq x hx)⟩
end
section
variable {X:Ctx} {n wm:Nat} {rd:Option Nat} {ops:Array Oper} {l:List Oper} {fr:Fr} {ds:List Deferred} {h h1 h2 h0:H} {ty:TypeId} {p:String} {af:Array Edge} {g:Option (Nat×Bool)} {m:Nat} {T:Nat ->Prop} {G Gr Ga Gb:List (Ast wm)} {d:Nat} {sf:ST}
theorem ZQC {x:Operand} {t:TypeId} {v:Value} {vs:List Value} (hS:Sp wm T h0 G h) (hx:Xf fr x=some v) (hv:v.cells.toList=vs):
 HN X wm ⟨some d,.box t x,ty,p,af,g⟩ fr h (fun v h'=>∃ b,h.size=b/\v= .pointer (some ⟨b,0,none⟩)/\Sp wm T h0 (bx wm b vs::G) h'):=by
 subst hv;refine⟨.pointer (some ⟨h.size,0,none⟩),.row v.cells.toList true 0,rfl,fun g' hz=>?_,fun h' u hat _=>⟨h.size,rfl,rfl,hS.new u ⟨hat,hS.hw⟩ fun i e=>Nat.le_of_eq e.symm⟩⟩;rw [ZHK,hx];dsimp only;rw [<- hz];rfl
theorem Zzt {t:TypeId} {v:Value} {vs:List Value} (hS:Sp wm T h0 G h) (hz:X0 X.P t=some v) (hv:v.cells.toList=vs):
 HN X wm ⟨some d,.alloc t,ty,p,af,g⟩ fr h (fun v h'=>∃ b,h.size=b/\v= .pointer (some ⟨b,0,none⟩)/\Sp wm T h0 (bx wm b vs::G) h'):=by
 subst hv;refine⟨.pointer (some ⟨h.size,0,none⟩),.row v.cells.toList true 0,rfl,fun g' hz'=>?_,fun h' u hat _=>⟨h.size,rfl,rfl,hS.new u ⟨hat,hS.hw⟩ fun i e=>Nat.le_of_eq e.symm⟩⟩;rw [ZxY,hz];dsimp only;rw [<- hz'];rfl
theorem Zsw {x y:Operand} {t:TypeId} {b o sz:Nat} {cs cs' vs:List Value} {v:Value} (hS:Sp wm T h0 G h) (pk:Pk G (bx wm b cs) Gr) (hs:Xo X.P t=some sz) (hx:Xf fr x=some (.pointer (some ⟨b,o,none⟩))) (hy:Xf fr y=some v)
 (hvs:v.cells.toList=vs) (hn:Nat.beq vs.length sz=true) (hl:Nat.ble (o + sz) cs.length=true) (hc:vs.all Value.oneCell'=true) (hv:splice cs o vs=cs'):
 HU X wm ⟨none,.store t x y,ty,p,af,g⟩ fr h (fun i=>i=b) (fun h'=>Sp wm T h0 (bx wm b cs'::Gr) h'):=by
 obtain⟨hr,hw⟩:=hS.get pk;obtain⟨e1,e2⟩:=Zzh (d:=none) (ty:=ty) (p:=p) (af:=af) (g:=g) hs hx hy hr hw hvs (Nb0 hn) (Nl0 hl) hc hv;refine⟨_,_,e1,e2,fun x hx=>?_,by simp,?_⟩
 ·simpa [Eff.tgt,eq_comm] using hx
 ·exact hS.one pk (Up.put hw (by rw [hr];rfl)) (fun i e=>e) ⟨XG (QE hr rfl) _,hw⟩ fun i e=>.inl e
theorem J9 {x:Operand} {t e':TypeId} {a:Option Addr} {mm cc:Nat} {k:Int} (hu:X.P.underlying t=some (.slice e')) (hx:Xf fr x=some (.slice a mm cc)) (hk:(mm:Int)=k):
 Qw X h (Xf fr) ⟨some d,.call {callee:= .builtin .len,args:=#[x],argTypes:=#[t]},ty,p,af,g⟩=some (.val (.int .i64 k),.none):=by subst hk;exact ZOz hu hx
section
variable {α:Type} {e:Ux α}
theorem Kw {t el:TypeId} {mm:Nat} {ps:Array (Nat×Operand)} {pvs:List (Nat×Value)} {z:Value} {zs:List Value} {xs:List α} (hS:Sp wm T h0 G h)
 (hu:X.P.underlying t=some (.slice el)) (hs:Xo X.P el=some e.sz) (hz:X0 X.P el=some z) (hzs:z.cells.toList=zs) (hzl:zs.length=e.sz) (hm:Nat.ble (mm * e.sz) 10000=true) (hp:evp (Xf fr) ps.toList=some pvs)
 (ho:ZeI (fun i=>some (i * e.sz,e.sz)) (UI zs mm).length pvs=true) (qs:List (e.KH×α)) (hv:ZjJ (fun i=>i * e.sz) (UI zs mm) pvs=qs.flatMap fun q=>e.sh q.1 q.2) (hq:qs.map (·.2)=xs) (hF:∀ q ∈ qs,e.F wm h q.1 q.2) (hlen:Nat.beq mm xs.length=true):
 HN X wm ⟨some d,.buildSlice t mm ps,ty,p,af,g⟩ fr h (fun v h'=>∃ b,h.size=b/\v= .slice (some ⟨b,0,none⟩) mm (2 * mm)/\Sp wm T h0 (ow wm e (some ⟨b,0,none⟩) mm (2 * mm) xs::G) h'):=by
 have hlen:=Nb0 hlen;subst hlen;have hm':=Nl0 hm;refine⟨.slice (some ⟨h.size,0,none⟩) xs.length (2 * xs.length),.row (qs.flatMap fun q=>e.sh q.1 q.2) true e.sz,rfl,fun g' hz'=>?_,fun h' u hat _=>⟨h.size,rfl,rfl,hS.new u ⟨rfl,?_⟩ fun i ⟨o,e⟩=>by cases e;exact Nat.le_refl _⟩⟩
 ·show(match evp (Xf fr) ps.toList with
   | some ps=>vE (Zkq X.P g' t xs.length ps)
   | none=>none)=_
  rw [hp];dsimp only;unfold Zkq;rw [hu];dsimp only;rw [hs,hz];dsimp only;rw [hzs,hzl];have b1:Nat.ble 1 e.sz=true:=Nm0 e.pos;rw [b1,hm,Nat.beq_refl];simp only [Bool.and_self,Cq1];rw [Zkv (off:=fun i=>i * e.sz) (fun i p e=>by cases e;rfl) _ _ ho,hv,hz']
  rfl
 ·have hel:=Jd.ZFP (h:=h) (wm:=wm) qs hF;rw [hq] at hel;have hl2:=hel.len
  have hmax:xs.length <=9223372036854775807:=by
   have:xs.length * 1 <=xs.length * e.sz:=Nat.mul_le_mul_left _ e.pos;omega
  refine Qq.mk' hmax hS.hw hat (by omega) ?_ (hel.mono (u.fz (Nat.le_refl _)));have:2 * xs.length / 2=xs.length:=by omega
  rw [this];omega
theorem ZHQ {P:Program} {ts:Array TypeId} {a:Option Addr} {nn c:Nat} {y v:Value} {E:Eff} {x0:Nat} (ha:QT P h ts (.slice a nn c) y=some (v,E)) (ht:E.tgt=some x0):X8 a x0:=by
 unfold QT at ha;cases hi:Zab P ts with
 | none=>rw [hi] at ha;cases ha
 | some q=>
   obtain⟨q1,sz,JO,q4⟩:=q;rw [hi] at ha;dsimp only at ha;cases hr:reads h y sz with
   | none=>rw [hr] at ha;cases ha
   | some new=>
     rw [hr] at ha;dsimp only at ha;cases hb:Nat.ble (nn + JE y) (c / 2) with
     | true=>
       rw [hb,Cq1] at ha;cases hz:Nat.beq (JE y) 0 with
       | true=>rw [hz,Cq1] at ha;cases ha;cases ht
       | false=>
         rw [hz,Cq0] at ha;split at ha
         ·split at ha
          ·rw [Bool.cond_eq_ite] at ha;split at ha
           ·cases ha;cases ht;exact⟨_,rfl⟩
           ·cases ha
          ·cases ha
         ·cases ha
     | false=>
       rw [hb,Cq0] at ha;cases hq:(Nat.ble ((2 * (nn + JE y) + 1000) * JO) (2 ^ 47) && new.all Value.oneCell') with
       | false=>rw [hq,Cq0] at ha;cases ha
       | true=>
         rw [hq,Cq1] at ha;split at ha
         ·cases hz:Nat.beq (c % 2) 0 with
          | true=>rw [hz,Cq1] at ha;cases ha;cases ht
          | false=>
            rw [hz,Cq0] at ha;split at ha
            ·split at ha
             ·rw [Bool.cond_eq_ite] at ha;split at ha
              ·cases ha;cases ht;exact⟨_,rfl⟩
              ·cases ha
             ·cases ha
            ·cases ha
         ·cases ha
theorem ZEh {ts:Array TypeId} {x y:Operand} {a:Option Addr} {nn c:Nat} {v w:Value} {E:Eff} {x0:Nat} (hx:Xf fr x=some (.slice a nn c)) (hy:Xf fr y=some w) (ha:Qw X h (Xf fr) ⟨some d,.call {callee:= .builtin .append,args:=#[x,y],argTypes:=ts},ty,p,af,g⟩=some (.val v,E)) (ht:E.tgt=some x0):X8 a x0:=by
 have hev:evs (Xf fr) [x,y]=some [.slice a nn c,w]:=Zb hx (Zb hy Zm);rw [Uo] at ha;have ZGs:evs (Xf fr) (#[x,y]:Array Operand).toList=some [.slice a nn c,w]:=hev;rw [ZGs] at ha;replace ha:vE (QT X.P h ts (.slice a nn c) w)=some (.val v,E):=ha;cases hh:QT X.P h ts (.slice a nn c) w with
 | none=>rw [hh] at ha;cases ha
 | some q=>rw [hh] at ha;obtain⟨v',E'⟩:=q;cases ha;exact ZHQ hh ht
theorem Uc {ts:Array TypeId} {x y:Operand} {JO:Nat} {a a2:Option Addr} {nn n2 c c2:Nat} {xs ys zs:List α} (hS:Sp wm T h0 G h) (pk:Pk G (ow wm e a nn c xs) Gr) (hi:Zeq X.P ts e.sz JO) (hx:Xf fr x=some (.slice a nn c)) (hy:Xf fr y=some (.slice a2 n2 c2)) (sr:Src e wm h a2 c2 ys) (hn:n2=ys.length) (ha:app JO xs ys=some zs):
 HV X wm ⟨some d,.call {callee:= .builtin .append,args:=#[x,y],argTypes:=ts},ty,p,af,g⟩ fr h (X8 a) (fun v h'=>∃ (a':Option Addr) (c':Nat),v= .slice a' zs.length c'/\Sp wm T h0 (ow wm e a' zs.length c' zs::Gr) h'):=by
 obtain⟨h1,so⟩:=hS.get pk;subst h1 hn
 refine ZEi (K:=HV X wm ⟨some d,.call {callee:= .builtin .append,args:=#[x,y],argTypes:=ts},ty,p,af,g⟩ fr h (X8 a) (fun v h'=>∃ (a':Option Addr) (c':Nat),v= .slice a' zs.length c'/\Sp wm T h0 (ow wm e a' zs.length c' zs::Gr) h'))
  (J:=fun v h'=>Up wm (X8 a) h h'/\∃ (a':Option Addr) (c':Nat),v= .slice a' zs.length c'/\Sp wm T h0 (ow wm e a' zs.length c' zs::Gr) h') wm (fun v E h1 e1 e2 ⟨u,j⟩=>⟨v,E,h1,e1,e2,fun x0 hx0=>?_,u.size,j⟩) hi (Nat.le_refl _) hS.hw hx hy so sr ha
  (fun a' c' h' u so' hb=>⟨u,a',c',rfl,hS.one pk u (fun i q=>q) ⟨rfl,so'⟩ fun i q=>(hb i q).imp id fun z=>Nat.le_of_eq z.symm⟩)
 exact ZEh hx hy e1 hx0
end
end
section
variable {X:Ctx} {n wm:Nat} {rd:Option Nat} {ops:Array Oper} {l:List Oper} {fr:Fr} {ds:List Deferred} {h h1 h2 h0:H} {ty:TypeId} {p:String} {af:Array Edge} {g:Option (Nat×Bool)} {m:Nat} {T:Nat ->Prop} {G Gr Ga Gb:List (Ast wm)} {d:Nat} {sf:ST}
section
variable {P:Program} {t:TypeId} {i x0:Nat} {k x:Value} {E:Eff}
theorem ZHM (ha:Q6 P h t (.map (some i)) k x=some E) (ht:E.tgt=some x0):x0=i:=by
 unfold Q6 at ha;split at ha
 ·rename_i heq _;cases heq;rw [Bool.cond_eq_ite] at ha;split at ha
  ·split at ha
   ·split at ha
    ·rw [Bool.cond_eq_ite] at ha;split at ha
     ·cases ha;cases ht;rfl
     ·cases ha
    ·cases ha
   ·cases ha;cases ht;rfl
   ·cases ha
  ·cases ha
 ·cases ha
end
section
variable {κ ν:Type} [DecidableEq κ] {kt vt:TypeId} {kv:κ ->Value} {vv:ν ->Value} {i:Nat} {ll:List (κ×ν)}
theorem ZQz {t:TypeId} (kv:κ ->Value) (vv:ν ->Value) (hS:Sp wm T h0 G h):
 HN X wm ⟨some d,.makeMap t none,ty,p,af,g⟩ fr h (fun v h'=>∃ b,h.size=b/\v= .map (some b)/\Sp wm T h0 (mp wm kv vv (some b) []::G) h'):=
 ⟨.map (some h.size),.map [] 0,rfl,fun g' hz=>by rw [<- hz];rfl,fun h' u hat _=>⟨h.size,rfl,rfl,hS.new u ⟨⟨.inr ⟨h.size,[],0,rfl,hat,rfl,by simp,by simp⟩⟩,fun i e=>by cases e;exact hS.hw⟩ fun i e=>by cases e;exact Nat.le_refl _⟩⟩
theorem ZQy {t:TypeId} {x y z:Operand} {k:κ} {v:ν} (hS:Sp wm T h0 G h) (pk:Pk G (mp wm kv vv (some i) ll) Gr) (K:ZkC X.P kt kv) (hu:X.P.underlying t=some (.map kt vt)) (hx:Xf fr x=some (.map (some i))) (hy:Xf fr y=some (kv k)) (hz:Xf fr z=some (vv v)):
 HU X wm ⟨none,.mapUpdate t x y z,ty,p,af,g⟩ fr h (fun j=>j=i) (fun h'=>Sp wm T h0 (mp wm kv vv (some i) (ZsS ll k v)::Gr) h'):=by
 obtain⟨h',⟨E,ha,hE,_⟩,u,ho⟩:=ZJ8 (d:=none) (ty:=ty) (p:=p) (af:=af) (g:=g) K hu (Nat.le_refl wm) hx rfl hy hz (hS.get pk);refine⟨E,h',ha,hE,fun x0 hx0=>?_,u.size,hS.one pk u (fun j e=>e) ho fun j e=>.inl e⟩;have ha':(match Xf fr x,Xf fr y,Xf fr z with | some m,some k,some x=>sE (Q6 X.P h t m k x) | _,_,_=>none)=some (.skip,E):=ha;rw [hx,hy,hz] at ha';dsimp only at ha';cases hh:Q6 X.P h t (.map (some i)) (kv k) (vv v) with
 | none=>rw [hh] at ha';cases ha'
 | some E'=>rw [hh] at ha';cases ha';exact ZHM hh hx0
end
end
section
variable {X:Ctx} {n wm:Nat} {rd:Option Nat} {ops:Array Oper} {l:List Oper} {fr:Fr} {ds:List Deferred} {h h1 h2 h0:H} {ty:TypeId} {p:String} {af:Array Edge} {g:Option (Nat×Bool)} {m:Nat} {T:Nat ->Prop} {G Gr Ga Gb:List (Ast wm)} {d:Nat} {sf:ST}
def CP {wm:Nat} (K:Value ->List (Ast wm) ->Prop) (Ga:List (Ast wm)) (h:H):Value ->H ->Prop:=fun v h'=>∃ Gb,K v Gb/\Sp wm (Qe Ga) h Gb h'
def Xi (X:Ctx) (fr:Fr) (o:Oper) (f:FuncId) (args:Array Value):Prop:=∀ h:H,Qw X h (Xf fr) o=some (.enter f args,.none)
theorem Xi.fn {f:FuncId} {xs:Array Operand} {ts:Array TypeId} {vs:List Value} {d:Option Tmp} (hf:(X.fns.get f).isSome=true) (hx:evs (Xf fr) xs.toList=some vs):Xi X fr ⟨d,.call {callee:= .value (.func f),args:=xs,argTypes:=ts},ty,p,af,g⟩ f vs.toArray:=fun h=>by
 obtain⟨fn,hf⟩:=Option.isSome_iff_exists.1 hf;rw [Zhm,hx];dsimp only;rw [Zr5];dsimp only;exact ZEu hf
theorem Xi.clo {f:FuncId} {fo:Operand} {xs:Array Operand} {ts:Array TypeId} {vs first cap args:List Value} {d:Option Tmp} (hc:Xf fr fo=some (.func (.func f) first.toArray cap.toArray)) (hf:(X.fns.get f).isSome=true) (hx:evs (Xf fr) xs.toList=some vs) (ha:first ++ vs ++ cap=args):
 Xi X fr ⟨d,.call {callee:= .value fo,args:=xs,argTypes:=ts},ty,p,af,g⟩ f args.toArray:=fun h=>by
 obtain⟨fn,hf⟩:=Option.isSome_iff_exists.1 hf;subst ha;rw [Zhm,hx];dsimp only;rw [hc];dsimp only;unfold KY;dsimp only;rw [hf]
theorem WO.en {Q:XX ->Fs ->Prop} {op:Op} {f:FuncId} {args:Array Value} {v:Value} {h2:H} (hg:YO ops ⟨some d,op,ty,p,af,g⟩ fr) (hd:Nat.blt d n=true) (he:Xi X fr ⟨some d,op,ty,p,af,g⟩ f args)
 (hc:XK X (.call f args wm h) (.fin (.ret v) h2)) (k:WO X n wm rd ops l ⟨Tr.set fr d v,ds,h2,none⟩ Q):WO X n wm rd ops (⟨some d,op,ty,p,af,g⟩::l) ⟨fr,ds,h,none⟩ Q:=
 WO.call hg hd (he h) rfl hc k
theorem WO.cl {Q:XX ->Fs ->Prop} {op:Op} {f:FuncId} {args:Array Value} {K:Value ->List (Ast wm) ->Prop} (hg:YO ops ⟨some d,op,ty,p,af,g⟩ fr) (hd:Nat.blt d n=true) (he:Xi X fr ⟨some d,op,ty,p,af,g⟩ f args) (hS:Sp wm T h0 G h) (pk:Sel G Ga Gr)
 (hc:∀ g':H,g'.size=h.size ->Fz wm h g' ->Ym Ga g' ->WR X f args wm g' (CP K Ga g')) (k:∀ v h' Gb,K v Gb ->Sp wm T h0 (Gb ++ Gr) h' ->WO X n wm rd ops l ⟨Tr.set fr d v,ds,h',none⟩ Q):
 WO X n wm rd ops (⟨some d,op,ty,p,af,g⟩::l) ⟨fr,ds,h,none⟩ Q:=by
 obtain⟨e,h',⟨v,rfl,Gb,hk,hs⟩,hj⟩:=hc h rfl (Fz.refl _ _) (hS.Zio pk);exact WO.en hg hd he hj (k v h' Gb hk (hS.call pk hs))
theorem JK.mono {P:Program} {o:Oper} {M M':Nat ->Prop} {v:Value} (hM:∀ i,i < h.size ->M i ->M' i) (s:JK P wm rd ops o M fr h v h2):JK P wm rd ops o M' fr h v h2:=fun ρ a w F K Q r Ye hf hF hK=>
 s ρ a w F K Q r Ye hf hF fun ρ' v' w' hv r' st=>hK ρ' v' w' hv r' (st.weaken hM r.lt)
theorem Sp.ZRx (hh:Ym Ga h) (c:Sp wm (Qe Ga) h Gb h2):WT (Qe Ga) h h2:=by
 refine⟨c.size,c.keep,fun i hi ho=>?_,fun i hi ho=>?_⟩
 ·by_cases ht:Qe Ga i
  ·exact(hh.own ht).2
  ·rwa [c.keep i hi ht] at ho
 ·by_cases ht:Qe Ga i
  ·exact Kz (hh.own ht).2
  ·rwa [c.keep i hi ht] at ho
open Classical in
def Ug (wm:Nat) (h:H) (R:Nat ->Prop):List Nat:= (List.range h.size).filter fun x=>decide (wm <=x/\(h.at x).own=true/\¬ R x)
theorem U1 {R:Nat ->Prop} {x:Nat}:x ∈ Ug wm h R↔x < h.size/\wm <=x/\(h.at x).own=true/\¬ R x:=by unfold Ug;simp
theorem WX.clC {Q:Fr ->H ->Prop} (to:List (Nat×(Nat ->Prop))) {op:Op} {f:FuncId} {args:Array Value} {K:Value ->List (Ast wm) ->Prop} (hg:YO ops ⟨some d,op,ty,p,af,g⟩ fr) (hd:Nat.blt d n=true) (he:Xi X fr ⟨some d,op,ty,p,af,g⟩ f args) (hS:Sp wm T h0 G h) (pk:Sel G Ga Gr)
 (hc:∀ g':H,g'.size=h.size ->Fz wm h g' ->Ym Ga g' ->WR X f args wm g' (CP K Ga g')) (k:∀ v h' Gb,K v Gb ->Sp wm T h0 (Gb ++ Gr) h' ->WX X n wm rd ops ⟨sf.s,to ++ sf.m,sf.p⟩ (m + 1) h' l (Tr.set fr d v) Q)
 (hh:YL ⟨some d,op,ty,p,af,g⟩=false) (hto:∀ x,Qe Ga x ->x < h.size ->∃ q ∈ to,q.1=m/\q.2 x) (htb:∀ q ∈ to,∀ x,q.2 x ->x < h.size) (hM:okM ops sf m ⟨some d,op,ty,p,af,g⟩=true) (hB:∀ x,Qe Ga x ->∀ i o',i < m ->ops.toList[i]? =some o' ->Cmp ops i m\/YL o'=true\/∃ V,(i,V) ∈ sf.s/\V x):
 WX X n wm rd ops sf m h (⟨some d,op,ty,p,af,g⟩::l) fr Q:=by
 have ha:=hS.Zio pk;have hw:=hS.hw;have hat:∀ x,x ∉ Ug wm h (Qe Ga) ->(mask (Ug wm h (Qe Ga)) h).at x=h.at x:=fun x hx=>by rw [QO,if_neg hx]
 have hnf:∀ x,Qe Ga x ->x ∉ Ug wm h (Qe Ga):=fun x hx q=>(U1.1 q).2.2.2 hx
 have hfz:Fz wm h (mask (Ug wm h (Qe Ga)) h):=by
  refine⟨by rw [Yc];exact Nat.le_refl _,fun i cs own z e s=>?_,fun i h1 h2=>?_⟩
  ·rw [hat i fun q=>?_,e];have q:=U1.1 q;rcases s with s | s
   ·omega
   ·rw [e] at q;subst s;exact Bool.noConfusion q.2.2.1
  ·exact hat i fun q=>by have:= (U1.1 q).2.1;omega
 have hha:Ym Ga (mask (Ug wm h (Qe Ga)) h):= ⟨fun A hA=>A.loc hfz (fun i f=>hat i (hnf i ⟨A,hA,f⟩)) (ha.all A hA),ha.dis⟩
 obtain⟨e,g2,⟨v,rfl,Gb,hk,hs⟩,hj⟩:=hc _ (Yc _ _) hfz hha;have hsz:h.size <=g2.size:=by have:=hs.size;rwa [Yc] at this
 have hua:=JG (Ug wm h (Qe Ga)) h g2 hsz;have hout:∀ x,x ∉ Ug wm h (Qe Ga) ->(Jh (Ug wm h (Qe Ga)) h g2).at x=g2.at x:=fun x hx=>by rw [hua,if_neg (fun q=>hx q.1)]
 have hin:∀ x,x ∈ Ug wm h (Qe Ga) ->g2.at x= .dead:=fun x hx=>by
  have q:=U1.1 hx;rw [hs.keep x (by rw [Yc];exact q.1) q.2.2.2,QO,if_pos hx]
 have hf2:Fz wm g2 (Jh (Ug wm h (Qe Ga)) h g2):=by
  refine⟨by rw [X6];exact Nat.le_refl _,fun i cs own z e _=>?_,fun i h1 _=>hout i fun q=>by have:= (U1.1 q).2.1;omega⟩;rw [hout i fun q=>?_,e];rw [hin i q] at e;cases e
 have hsp:Sp wm (Qe Ga) h Gb (Jh (Ug wm h (Qe Ga)) h g2):=by
  refine⟨hw,(hfz.trans hs.fz).trans hf2,fun i hi hn=>?_,⟨fun A hA=>A.loc hf2 (fun i f=>hout i fun q=>?_) (hs.hold.all A hA),hs.hold.dis⟩,fun i f=>by have:=hs.inn i f;rwa [Yc] at this⟩
  ·by_cases hx:i ∈ Ug wm h (Qe Ga)
   ·rw [hua,if_pos ⟨hx,hi⟩]
   ·rw [hout i hx,hs.keep i (by rw [Yc];exact hi) hn,hat i hx]
  ·have q':=U1.1 q;rcases hs.inn i ⟨A,hA,f⟩ with z | z
   ·exact q'.2.2.2 z
   ·rw [Yc] at z;omega
 have hown:∀ x,Qe Ga x ->x < h.size:=fun x hx=>Zc6 (ha.own hx).2
 refine⟨fun hb=>WE.cons (T:=Qe Ga) (xs0:=Ug wm h (Qe Ga)) (v:=v) (h2:=Jh (Ug wm h (Qe Ga)) h g2) [] to none ?_ (fun _ z=>by simp at z) hto
  (fun x hx hl i o' hi' ho'=>?_) (fun hh q hq=>.inl (Wt hM hh q hq)) (fun x j C z=>by cases z) ((k v _ Gb hk (hS.call pk hsp)).out fun q hq x hx=>?_)⟩
 ·refine⟨fun _=>⟨g2,rfl,(ZmA hg (he _) (by rw [Yc];exact hw) hj).mono fun i hi hm=>?_,hs.ZRx hha⟩,fun x hx=>(ha.own hx).1,fun d' e=>by cases e;rwa [Nat.blt_eq] at hd,fun q=>Bool.noConfusion (hh.symm.trans q),fun x hx _=>hnf x hx⟩;rw [Yc] at hi;by_cases ht:Qe Ga i
  ·exact ht
  ·exfalso;by_cases hx:i ∈ Ug wm h (Qe Ga)
   ·rw [QO,if_pos hx] at hm;cases hm.2
   ·rw [hat i hx] at hm;exact hx (U1.2 ⟨hi,hm.1,hm.2,ht⟩)
 ·exact(hB x hx i o' hi' ho').imp (fun z=>z) fun z=>z.imp (fun z=>z) .inl
 ·rw [X6];rcases List.mem_append.1 hq with z | z
  ·exact Nat.lt_of_lt_of_le (htb q z x hx) hsz
  ·exact Nat.lt_of_lt_of_le (hb q z x hx) hsz
theorem WX.cl {Q:Fr ->H ->Prop} {op:Op} {f:FuncId} {args:Array Value} {K:Value ->List (Ast wm) ->Prop} (hg:YO ops ⟨some d,op,ty,p,af,g⟩ fr) (hd:Nat.blt d n=true) (he:Xi X fr ⟨some d,op,ty,p,af,g⟩ f args) (hS:Sp wm T h0 G h) (pk:Sel G Ga Gr)
 (hc:∀ g':H,g'.size=h.size ->Fz wm h g' ->Ym Ga g' ->WR X f args wm g' (CP K Ga g')) (k:∀ v h' Gb,K v Gb ->Sp wm T h0 (Gb ++ Gr) h' ->WX X n wm rd ops ⟨sf.s,(m,fun x=>Qe Ga x/\x < h.size)::sf.m,sf.p⟩ (m + 1) h' l (Tr.set fr d v) Q)
 (hh:YL ⟨some d,op,ty,p,af,g⟩=false) (hM:okM ops sf m ⟨some d,op,ty,p,af,g⟩=true) (is:List Nat) (hB:okB ops m is=true) (hi:YR sf (Qe Ga) is):
 WX X n wm rd ops sf m h (⟨some d,op,ty,p,af,g⟩::l) fr Q:=
 WX.clC [(m,fun x=>Qe Ga x/\x < h.size)] hg hd he hS pk hc k hh (fun x hx hl=>⟨_,List.mem_singleton.2 rfl,rfl,hx,hl⟩) (fun q hq x hx=>by rw [List.mem_singleton.1 hq] at hx;exact hx.2) hM fun x hx i o' hi' ho'=>(Zqb hB hi' ho').imp (fun z=>z) fun z=>z.imp (fun z=>z) fun z=>let⟨V,q1,q2⟩:=hi i z;⟨V,q1,q2 x hx⟩
theorem WX.cl0 {Q:Fr ->H ->Prop} {op:Op} {f:FuncId} {args:Array Value} {K:Value ->List (Ast wm) ->Prop} (hg:YO ops ⟨some d,op,ty,p,af,g⟩ fr) (hd:Nat.blt d n=true) (he:Xi X fr ⟨some d,op,ty,p,af,g⟩ f args) (hS:Sp wm T h0 G h) (pk:Sel G [] Gr)
 (hc:∀ g':H,g'.size=h.size ->Fz wm h g' ->Ym ([]:List (Ast wm)) g' ->WR X f args wm g' (CP K [] g')) (k:∀ v h' Gb,K v Gb ->Sp wm T h0 (Gb ++ Gr) h' ->WX X n wm rd ops sf (m + 1) h' l (Tr.set fr d v) Q)
 (hh:YL ⟨some d,op,ty,p,af,g⟩=false) (hM:okM ops sf m ⟨some d,op,ty,p,af,g⟩=true):
 WX X n wm rd ops sf m h (⟨some d,op,ty,p,af,g⟩::l) fr Q:=
 WX.clC [] hg hd he hS pk hc k hh (fun x ⟨A,q,_⟩=>by simp at q) (fun q hq=>by simp at hq) hM fun x ⟨A,q,_⟩=>by simp at q
structure Cv {wm wm':Nat} (A:Ast wm') (B:Ast wm):Prop where
 imp:∀ h,A.P h ->B.P h
 fp:∀ i,B.fp i ->A.fp i
inductive Cvs {wm wm':Nat}:List (Ast wm') ->List (Ast wm) ->Prop
 | n:Cvs [] []
 | c {A:Ast wm'} {B:Ast wm} {G':List (Ast wm')} {G:List (Ast wm)}:Cv A B ->Cvs G' G ->Cvs (A::G') (B::G)
theorem Cvs.hold {wm wm':Nat} {G':List (Ast wm')} {G:List (Ast wm)} (c:Cvs G' G) (s:Ym G' h):Ym G h/\∀ i,Qe G i ->Qe G' i:=by
 induction c with
 | n=>exact⟨Ym.nil,fun i ⟨A,m,_⟩=>by simp at m⟩
 | @c A B G' G cv _ ih=>
   have hr:Ym G' h:=Ym.right (Ga:= [A]) s;obtain⟨i1,i2⟩:=ih hr;have hd:=List.pairwise_cons.1 s.dis;refine⟨⟨fun C hm=>?_,List.pairwise_cons.2 ⟨fun C hm i f1 f2=>?_,i1.dis⟩⟩,fun i ⟨C,hm,f⟩=>?_⟩
   ·rcases List.mem_cons.1 hm with z | z
    ·rw [z];exact cv.imp h (s.all A (by simp))
    ·exact i1.all C z
   ·obtain⟨D,q1,q2⟩:=i2 i ⟨C,hm,f2⟩;exact hd.1 D q1 i (cv.fp i f1) q2
   ·rcases List.mem_cons.1 hm with z | z
    ·rw [z] at f;exact⟨A,by simp,cv.fp i f⟩
    ·obtain⟨D,q1,q2⟩:=i2 i ⟨C,z,f⟩;exact⟨D,by simp [q1],q2⟩
theorem Sp.clR {G':List (Ast h.size)} (s:Sp wm T h0 G h) (c:Sp h.size (Qe ([]:List (Ast h.size))) h G' h2) (cv:Cvs G' Gb):Sp wm T h0 (Gb ++ G) h2:=by
 obtain⟨i1,i2⟩:=cv.hold c.hold;refine Sp.step (Ga:= []) (t:=fun _=>False) s ⟨c.size,fun i hi _=>c.keep i hi fun⟨A,q,_⟩=>by simp at q,fun _ z=>z.elim⟩ (fun _ z=>z.elim) i1 fun i f=>?_
 rcases c.inn i (i2 i f) with⟨A,q,_⟩ | z
 ·simp at q
 ·exact .inr z
theorem cvO {α:Type} {e:Ux α} {wm':Nat} {a:Option Addr} {nn c:Nat} {xs:List α} (hf:e.Flat) (hw:wm <=wm'):Cv (ow wm' e a nn c xs) (ow wm e a nn c xs):= ⟨fun _ ⟨h1,s⟩=>⟨h1,(s.flat hf).lower hw⟩,fun _ e=>e⟩
theorem WO.clR {Q:XX ->Fs ->Prop} {op:Op} {f:FuncId} {args:Array Value} {K:Value ->List (Ast h.size) ->Prop} (hg:YO ops ⟨some d,op,ty,p,af,g⟩ fr) (hd:Nat.blt d n=true) (he:Xi X fr ⟨some d,op,ty,p,af,g⟩ f args) (hw:wm <=h.size)
 (hc:WR X f args h.size h (CP K [] h)) (k:∀ v h' G',K v G' ->Sp h.size (Qe ([]:List (Ast h.size))) h G' h' ->WO X n wm rd ops l ⟨Tr.set fr d v,ds,h',none⟩ Q):WO X n wm rd ops (⟨some d,op,ty,p,af,g⟩::l) ⟨fr,ds,h,none⟩ Q:=by
 obtain⟨e,h',⟨v,rfl,Gb,hk,hs⟩,hj⟩:=hc;exact WO.en hg hd he (hj.weaken hw (Nat.le_refl _)) (k v h' Gb hk hs)
theorem WX.ZJE {Q:Fr ->H ->Prop} {op:Op} {f:FuncId} {args:Array Value} {v:Value} (hg:YO ops ⟨some d,op,ty,p,af,g⟩ fr) (hd:Nat.blt d n=true) (he:Xi X fr ⟨some d,op,ty,p,af,g⟩ f args) (gr:Grow h h2) (hj:XK X (.call f args h.size h) (.fin (.ret v) h2))
 (k:WX X n wm rd ops sf (m + 1) h2 l (Tr.set fr d v) Q) (hh:YL ⟨some d,op,ty,p,af,g⟩=false) (hM:okM ops sf m ⟨some d,op,ty,p,af,g⟩=true):WX X n wm rd ops sf m h (⟨some d,op,ty,p,af,g⟩::l) fr Q:=by
 refine⟨fun hb=>WE.cons (T:=fun _=>False) (xs0:= []) (v:=v) (h2:=h2) [] [] none ?_ (fun _ z=>by simp at z) (fun _ z=>z.elim) (fun _ z=>z.elim) (fun hh q hq=>.inl (Wt hM hh q hq)) (fun x j C z=>by cases z) (k.out fun q hq x hx=>Nat.lt_of_lt_of_le (hb q hq x hx) gr.size)⟩;refine⟨fun _=>⟨h2,rfl,(ZmA hg (he h) (Nat.le_refl _) hj).mono fun i hi hm=>absurd hm.1 (Nat.not_le_of_lt hi),gr.size,fun i hi _=>gr.keep i hi,fun i hi q=>by rwa [gr.keep i hi] at q,fun i hi q=>by rwa [gr.keep i hi] at q⟩,fun _ z=>z.elim,fun d' e=>by cases e;rwa [Nat.blt_eq] at hd,fun q=>Bool.noConfusion (hh.symm.trans q),fun _ z=>z.elim⟩
theorem WX.clR {Q:Fr ->H ->Prop} {op:Op} {f:FuncId} {args:Array Value} {K:Value ->List (Ast h.size) ->Prop} (hg:YO ops ⟨some d,op,ty,p,af,g⟩ fr) (hd:Nat.blt d n=true) (he:Xi X fr ⟨some d,op,ty,p,af,g⟩ f args) (_:wm <=h.size)
 (hc:WR X f args h.size h (CP K [] h)) (k:∀ v h' G',K v G' ->Sp h.size (Qe ([]:List (Ast h.size))) h G' h' ->WX X n wm rd ops sf (m + 1) h' l (Tr.set fr d v) Q) (hh:YL ⟨some d,op,ty,p,af,g⟩=false) (hM:okM ops sf m ⟨some d,op,ty,p,af,g⟩=true):
 WX X n wm rd ops sf m h (⟨some d,op,ty,p,af,g⟩::l) fr Q:=by
 obtain⟨e,h',⟨v,rfl,Gb,hk,hs⟩,hj⟩:=hc;exact WX.ZJE hg hd he ⟨hs.size,fun i hi=>hs.keep i hi fun⟨A,q,_⟩=>by simp at q⟩ hj (k v h' Gb hk hs) hh hM
theorem WO.cp {Q:XX ->Fs ->Prop} {op:Op} {f:FuncId} {args:Array Value} {v:Value} (hg:YO ops ⟨some d,op,ty,p,af,g⟩ fr) (hd:Nat.blt d n=true) (he:Xi X fr ⟨some d,op,ty,p,af,g⟩ f args) (hj:Pure X f args h v) (k:WO X n wm rd ops l ⟨Tr.set fr d v,ds,h,none⟩ Q):
 WO X n wm rd ops (⟨some d,op,ty,p,af,g⟩::l) ⟨fr,ds,h,none⟩ Q:=WO.en hg hd he (hj wm) k
theorem WX.cp {Q:Fr ->H ->Prop} {op:Op} {f:FuncId} {args:Array Value} {v:Value} (hg:YO ops ⟨some d,op,ty,p,af,g⟩ fr) (hd:Nat.blt d n=true) (he:Xi X fr ⟨some d,op,ty,p,af,g⟩ f args) (hj:Pure X f args h v)
 (k:WX X n wm rd ops sf (m + 1) h l (Tr.set fr d v) Q) (hh:YL ⟨some d,op,ty,p,af,g⟩=false) (hM:okM ops sf m ⟨some d,op,ty,p,af,g⟩=true):WX X n wm rd ops sf m h (⟨some d,op,ty,p,af,g⟩::l) fr Q:=WX.ZJE hg hd he (Grow.refl h) (hj _) k hh hM
theorem WO.gcp {Q:XX ->Fs ->Prop} {op:Op} {f:FuncId} {args:Array Value} {v:Value} {c:Bool} (hg:Zf ops ⟨some d,op,ty,p,af,g⟩ fr c) (hd:Nat.blt d n=true) (he:c=true ->Xi X fr ⟨some d,op,ty,p,af,g⟩ f args) (hj:c=true ->Pure X f args h v) (k:WO X n wm rd ops l ⟨Tr.set fr d (cond c v undef),ds,h,none⟩ Q):
 WO X n wm rd ops (⟨some d,op,ty,p,af,g⟩::l) ⟨fr,ds,h,none⟩ Q:=by
 cases c
 ·exact WO.XO hg rfl hd k
 ·exact WO.cp hg hd (he rfl) (hj rfl) k
theorem WX.gcp {Q:Fr ->H ->Prop} {op:Op} {f:FuncId} {args:Array Value} {v:Value} {c:Bool} (hg:Zf ops ⟨some d,op,ty,p,af,g⟩ fr c) (hd:Nat.blt d n=true) (he:c=true ->Xi X fr ⟨some d,op,ty,p,af,g⟩ f args) (hj:c=true ->Pure X f args h v)
 (k:WX X n wm rd ops sf (m + 1) h l (Tr.set fr d (cond c v undef)) Q) (hh:YL ⟨some d,op,ty,p,af,g⟩=false) (hM:okM ops sf m ⟨some d,op,ty,p,af,g⟩=true):WX X n wm rd ops sf m h (⟨some d,op,ty,p,af,g⟩::l) fr Q:=by
 cases c
 ·exact WX.off hg hd k hM
 ·exact WX.cp hg hd (he rfl) (hj rfl) k hh hM
theorem WO.inl {Q:XX ->Fs ->Prop} {op:Op} {f:FuncId} {args:Array Value} (hg:YO ops ⟨some d,op,ty,p,af,g⟩ fr) (hd:Nat.blt d n=true) (he:Xi X fr ⟨some d,op,ty,p,af,g⟩ f args)
 (k:WR X f args wm h (fun v h'=>WO X n wm rd ops l ⟨Tr.set fr d v,ds,h',none⟩ Q)):WO X n wm rd ops (⟨some d,op,ty,p,af,g⟩::l) ⟨fr,ds,h,none⟩ Q:=by
 obtain⟨e,h',⟨v,rfl,hk⟩,hj⟩:=k;exact WO.en hg hd he hj hk
theorem WO.ZeD {Q:XX ->Fs ->Prop} {α β:Type} {r:β} (I:α ->Value ->H ->Prop) (j:α ->Option β) {op:Op} {f:FuncId} {args:Array Value} (hg:YO ops ⟨some d,op,ty,p,af,g⟩ fr) (hd:Nat.blt d n=true) (he:Xi X fr ⟨some d,op,ty,p,af,g⟩ f args)
 (k:∀ x v h',j x=some r ->I x v h' ->WO X n wm rd ops l ⟨Tr.set fr d v,ds,h',none⟩ Q) (hc:WR X f args wm h (fun v h'=>∃ x,j x=some r/\I x v h')):WO X n wm rd ops (⟨some d,op,ty,p,af,g⟩::l) ⟨fr,ds,h,none⟩ Q:=by
 obtain⟨e,h',⟨v,rfl,x,h1,h2⟩,hj⟩:=hc;exact WO.en hg hd he hj (k x v h' h1 h2)
theorem ZU9 {α:Type} {e:Ux α} {a:Option Addr} {nn c:Nat} {xs:List α} {h':H} (hS:Sp wm T h0 G h) (pk:Pk G (ow wm e a nn c xs) Gr) (u:Up wm (X8 a) h h') (s:Sl e wm h' a c xs):nn=xs.length/\Sp wm T h0 (X7 wm (Xn e) (a,c) xs::Gr) h':=
 ⟨(hS.get pk).1,hS.one pk u (fun _ q=>q) s fun _ z=>z.elim⟩
theorem WC.fzn {Q:XX ->Fs ->Prop} {cd:Code} {α:Type} {e:Ux α} {a:Option Addr} {nn c:Nat} {xs:List α} (hS:Sp wm T h0 G h) (pk:Pk G (ow wm e a nn c xs) Gr) (k:∀ h',nn=xs.length/\Sp wm T h0 (X7 wm (Xn e) (a,c) xs::Gr) h' ->WC X n wm rd cd ⟨fr,ds,h',none⟩ Q):WC X n wm rd cd ⟨fr,ds,h,none⟩ Q:=
 WC.freeze (Nat.le_refl wm) (hS.get pk).2 fun h' u s=>k h' (ZU9 hS pk u s)
theorem Sp.WA {α:Type} {e:Ux α} {a:Option Addr} {c:Nat} {xs:List α} (s:Sp wm T h0 G h) (pk:Pk G (X7 wm (Xn e) (a,c) xs) Gr):Sl e wm h a c xs:=s.get pk
end
section
theorem k0 {α:Type} {A:α} {G:List α}:Pk (A::G) A G:= .z
theorem k1 {α:Type} {A b:α} {G:List α}:Pk (b::A::G) A (b::G):= .s k0
theorem k2 {α:Type} {A b c:α} {G:List α}:Pk (b::c::A::G) A (b::c::G):= .s k1
theorem k3 {α:Type} {A b c d:α} {G:List α}:Pk (b::c::d::A::G) A (b::c::d::G):= .s k2
theorem k4 {α:Type} {A b c d e:α} {G:List α}:Pk (b::c::d::e::A::G) A (b::c::d::e::G):= .s k3
theorem k5 {α:Type} {A b c d e f:α} {G:List α}:Pk (b::c::d::e::f::A::G) A (b::c::d::e::f::G):= .s k4
theorem k6 {α:Type} {A b c d e f g:α} {G:List α}:Pk (b::c::d::e::f::g::A::G) A (b::c::d::e::f::g::G):= .s k5
theorem k7 {α:Type} {A b c d e f g h:α} {G:List α}:Pk (b::c::d::e::f::g::h::A::G) A (b::c::d::e::f::g::h::G):= .s k6
theorem k8 {α:Type} {A b c d e f g h i:α} {G:List α}:Pk (b::c::d::e::f::g::h::i::A::G) A (b::c::d::e::f::g::h::i::G):= .s k7
theorem k9 {α:Type} {A b c d e f g h i j:α} {G:List α}:Pk (b::c::d::e::f::g::h::i::j::A::G) A (b::c::d::e::f::g::h::i::j::G):= .s k8
theorem k10 {α:Type} {A b c d e f g h i j k:α} {G:List α}:Pk (b::c::d::e::f::g::h::i::j::k::A::G) A (b::c::d::e::f::g::h::i::j::k::G):= .s k9
theorem k11 {α:Type} {A b c d e f g h i j k l:α} {G:List α}:Pk (b::c::d::e::f::g::h::i::j::k::l::A::G) A (b::c::d::e::f::g::h::i::j::k::l::G):= .s k10
theorem k12 {α:Type} {A b c d e f g h i j k l m:α} {G:List α}:Pk (b::c::d::e::f::g::h::i::j::k::l::m::A::G) A (b::c::d::e::f::g::h::i::j::k::l::m::G):= .s k11
theorem k13 {α:Type} {A b c d e f g h i j k l m n:α} {G:List α}:Pk (b::c::d::e::f::g::h::i::j::k::l::m::n::A::G) A (b::c::d::e::f::g::h::i::j::k::l::m::n::G):= .s k12
theorem k14 {α:Type} {A b c d e f g h i j k l m n o:α} {G:List α}:Pk (b::c::d::e::f::g::h::i::j::k::l::m::n::o::A::G) A (b::c::d::e::f::g::h::i::j::k::l::m::n::o::G):= .s k13
theorem k15 {α:Type} {A b c d e f g h i j k l m n o p:α} {G:List α}:Pk (b::c::d::e::f::g::h::i::j::k::l::m::n::o::p::A::G) A (b::c::d::e::f::g::h::i::j::k::l::m::n::o::p::G):= .s k14
theorem At.eqv {h h':H} {b o:Nat} {vs:List Value} (e:h'.at b=h.at b) (a:At h b o vs):At h' b o vs:=by
 obtain⟨cs,own,z,h1,h2⟩:=a;exact⟨cs,own,z,by rw [e,h1],h2⟩
section
variable {wm:Nat} {G Ga Gr:List (Ast wm)} {h h0:H} {T:Nat ->Prop} {A B:Ast wm}
theorem Sp.nil {α:Type} (s:Sp wm T h0 G h) {e:Ux α}:Sp wm T h0 (ow wm e none 0 0 ([]:List α)::G) h:=s.add ⟨rfl,Qq.nil⟩ fun i=>X8.none
theorem Sp.dj (s:Sp wm T h0 G h) (p:Sel G [A,B] Gr):∀ x,A.fp x ->¬ B.fp x:=fun x a b=>by
 have:= (s.Zio p).dis;exact(List.pairwise_cons.1 this).1 B (by simp) x a b
theorem Sp.JA {α:Type} {e:Ux α} {a:Option Addr} {c:Nat} {xs:List α} (s:Sp wm T h0 G h) (p:Pk G (X7 wm (Xn e) (a,c) xs) Gr):Sl e h.size h a c xs:= (s.WA p).up s.hw
end
theorem Znf {b:Bool} (h:(!b)=true):b=false:=by cases b <;> simp_all
theorem Zng {b:Bool} (h:(!b)=false):b=true:=by cases b <;> simp_all
section
variable {X:Ctx} {h:H} {ev:Operand ->Option Value} {d:Nat} {ty:TypeId} {p:String} {af:Array Edge} {g:Option (Nat×Bool)}
theorem YM {α:Type} {xs:List α} {v:α} {x y:Operand} {t e:TypeId} {sz b o nn c:Nat} {a:Option Addr} {k:Int} (hu:X.P.underlying t=some (.slice e)) (hs:Xo X.P e=some sz) (hx:ev x=some (.slice a nn c)) (hy:ev y=some (.int .i64 k)) (hn:nn=xs.length) (ha:a=some ⟨b,o,none⟩) (hk:ZF xs k=some v):
 Qw X h ev ⟨some d,.indexAddr t x y,ty,p,af,g⟩=some (.val (.pointer (some ⟨b,o + k.toNat * sz,none⟩)),.none):=by subst hn;exact ZWq hu hs hx hy ha hk
theorem ZaD {q x y:Operand} {b:Bool} {v:Value} (hc:ev q=some (.bool b)) (hb:b=true) (hx:ev x=some v):Qw X h ev ⟨some d,.pick q x y,ty,p,af,g⟩=some (.val v,.none):=by
 subst hb;rw [Zgd,hc];dsimp only;rw [hx];rfl
theorem Za6 {q x y:Operand} {b:Bool} {v:Value} (hc:ev q=some (.bool b)) (hb:b=false) (hy:ev y=some v):Qw X h ev ⟨some d,.pick q x y,ty,p,af,g⟩=some (.val v,.none):=by
 subst hb;rw [Zgd,hc];dsimp only;rw [hy];rfl
end
theorem WR.Xl {X:Ctx} {f:FuncId} {args:Array Value} {h:H} {v:Value} (hp:plain v=true) (k:WR X f args h.size h (CP (wm:=h.size) (fun v' Gb=>v'=v/\Gb= []) [] h)):Pure X f args h v:=
 WF.ZQI hp (k.mono fun _ _ ⟨v',h1,_,h2,_⟩=>⟨v',h1,h2.1⟩)
end
section
variable {X:Ctx} {n wm:Nat} {rd:Option Nat} {ops:Array Oper} {fr:Fr} {h h1 h2 h0:H} {ty:TypeId} {p:String} {af:Array Edge} {g:Option (Nat×Bool)} {T:Nat ->Prop} {G Gr Ga Gb:List (Ast wm)} {d:Nat}
theorem UZ (cs vs:List Value) (o t:Nat) (hl:o + vs.length <=cs.length):(splice cs o vs)[t]? =if o <=t/\t < o + vs.length then vs[t - o]? else cs[t]?:=by
 have hlt:(cs.take o).length=o:=by rw [List.length_take];omega
 unfold splice;rw [List.append_assoc];by_cases h1:t < o
 ·rw [List.getElem?_append_left (by omega),List.getElem?_take_of_lt h1,if_neg (by omega)]
 ·rw [List.getElem?_append_right (by omega),hlt];by_cases h2:t < o + vs.length
  ·rw [List.getElem?_append_left (by omega),if_pos ⟨by omega,h2⟩]
  ·rw [List.getElem?_append_right (by omega),List.getElem?_drop,if_neg (by omega)];congr 1;omega
theorem UY (cs vs:List Value) (o:Nat) (hl:o + vs.length <=cs.length):(splice cs o vs).length=cs.length:=by
 unfold splice;simp only [List.length_append,List.length_take,List.length_drop];omega
theorem Zi1 {cs vs:List Value} {o a m:Nat} (hl:o + vs.length <=cs.length) (hf:a + m <=o\/o + vs.length <=a):((splice cs o vs).drop a).take m= (cs.drop a).take m:=by
 apply List.ext_getElem?;intro t;by_cases ht:t < m
 ·rw [List.getElem?_take_of_lt ht,List.getElem?_take_of_lt ht,List.getElem?_drop,List.getElem?_drop,UZ _ _ _ _ hl,if_neg (by omega)]
 ·rw [List.getElem?_eq_none (by rw [List.length_take];omega),List.getElem?_eq_none (by rw [List.length_take];omega)]
theorem ZlA {cs vs:List Value} {a j m:Nat} (hl:a + m <=cs.length) (hj:j + vs.length <=m):((splice cs (a + j) vs).drop a).take m=splice ((cs.drop a).take m) j vs:=by
 have hlen:((cs.drop a).take m).length=m:=by rw [List.length_take,List.length_drop];omega
 apply List.ext_getElem?;intro t;rw [UZ _ _ _ _ (by rw [hlen];exact hj)];by_cases ht:t < m
 ·rw [List.getElem?_take_of_lt ht,List.getElem?_drop,UZ _ _ _ _ (by omega)];by_cases h1:j <=t/\t < j + vs.length
  ·rw [if_pos h1,if_pos (by omega)];congr 1;omega
  ·rw [if_neg h1,if_neg (by omega),List.getElem?_take_of_lt ht,List.getElem?_drop]
 ·have e1:(((splice cs (a + j) vs).drop a).take m)[t]? =none:=List.getElem?_eq_none (by rw [List.length_take];omega);rw [e1,if_neg (by omega),List.getElem?_eq_none (by rw [hlen];omega)]
theorem JI {α:Type} {xs:List α} {k:Int} {x y:α} (hk:ZF xs k=some x):ZF (ZE xs k y) k=some y:=by
 obtain⟨h1,h2,_⟩:=Qt hk
 have:∀ j:Nat,(j:Int)=k ->ZF (xs.set j y) k=some (y:α)\/xs.length <=j:=fun j e=>by
  subst e;rw [Zdf];by_cases hj:j < xs.length
  ·left;simp [hj]
  ·right;omega
 exact(this _ h1).elim id fun z=>absurd h2 (Nat.not_lt_of_le z)
theorem Zau {α:Type} (xs:List α) (k:Int) (y:α):(ZE xs k y).length=xs.length:=by unfold ZE;simp
theorem Wp {α:Type} {xs:List α} {k:Int} {x y:α} (hk:ZF xs k=some x) (j:Nat):(ZE xs k y)[j]? =if j=k.toNat then some y else xs[j]?:=by
 obtain⟨h1,h2,_⟩:=Qt hk;unfold ZE;rw [List.getElem?_set];by_cases e:j=k.toNat
 ·subst e;rw [if_pos rfl,if_pos rfl,if_pos h2]
 ·rw [if_neg (fun z=>e z.symm),if_neg e]
section
variable {α:Type} {e:Ux α}
theorem ZuK {a:Option Addr} {c b o j:Nat} {xs:List α} {k:Int} {x y:α} {cs vs:List Value} {q:e.KH} (so:Qq e wm wm h a c xs) (ha:a=some ⟨b,o,none⟩) (hk:ZF xs k=some x) (hA:At h b (o + k.toNat * e.sz) cs) (hl:cs.length=e.sz) (hj:j + vs.length <=cs.length)
 (hy:splice cs j vs=e.sh q y) (hF:e.F wm h q y):∃ row,h.at b= .row row true e.sz/\o + k.toNat * e.sz + j + vs.length <=row.length/\wm <=b/\∀ h',Up wm (fun i=>i=b) h h' ->h'.at b= .row (splice row (o + k.toNat * e.sz + j) vs) true e.sz ->Qq e wm wm h' a c (ZE xs k y)/\At h' b (o + k.toNat * e.sz) (splice cs j vs):=by
 obtain⟨k1,k2,k3⟩:=Qt hk;rcases so.mem with⟨q1,_⟩ | ⟨i,o',row,q1,q2,q3,q4,q5,q6⟩
 ·rw [ha] at q1;cases q1
 ·rw [ha] at q1;cases q1;have hel:=q6.len;have hm:(k.toNat + 1) * e.sz <=xs.length * e.sz:=Nat.mul_le_mul_right _ k2;rw [Nat.succ_mul] at hm
  have hrow:(row.drop (o + k.toNat * e.sz)).take e.sz=cs:=by
   obtain⟨cs',own,z,a1,a2,a3⟩:=hA;rw [q3] at a1;cases a1;have:=a2;rw [hl] at this;exact this
  refine⟨row,q3,by omega,q2,fun h' u hat=>⟨⟨by rw [Zau];exact so.max,.inr ⟨b,o,_,ha,q2,hat,by rw [Zau];exact q4,by rw [UY _ _ _ (by omega)];exact q5,⟨by rw [Zau,UY _ _ _ (by omega)];exact hel,fun t z hz=>?_⟩⟩⟩,⟨_,_,_,hat,?_,?_⟩⟩⟩
  ·rw [Wp hk] at hz;by_cases et:t=k.toNat
   ·rw [if_pos et] at hz;cases hz;subst et;exact⟨q,by rw [ZlA (by omega) (by omega),hrow,hy],e.mono (u.fz (Nat.le_refl _)) hF⟩
   ·rw [if_neg et] at hz;obtain⟨q',g1,g2⟩:=q6.get t z hz;refine⟨q',?_,e.mono (u.fz (Nat.le_refl _)) g2⟩;rw [Zi1 (by omega),g1];rcases Nat.lt_or_ge t k.toNat with z1 | z1
    ·left;have:(t + 1) * e.sz <=k.toNat * e.sz:=Nat.mul_le_mul_right _ z1;rw [Nat.succ_mul] at this;omega
    ·right;have:(k.toNat + 1) * e.sz <=t * e.sz:=Nat.mul_le_mul_right _ (by omega);rw [Nat.succ_mul] at this;omega
  ·rw [UY _ _ _ hj,hl,ZlA (by omega) (by omega),hrow]
  ·rw [UY _ _ _ hj,UY _ _ _ (by omega)];omega
theorem Zfb {x y:Operand} {t:TypeId} {a:Option Addr} {nn c b o j oo sz:Nat} {xs:List α} {k:Int} {x0:α} (y0:α) {cs cs' vs:List Value} {v:Value} (q:e.KH) (hS:Sp wm T h0 G h) (pk:Pk G (ow wm e a nn c xs) Gr) (hs:Xo X.P t=some sz) (hx:Xf fr x=some (.pointer (some ⟨b,oo,none⟩))) (hy:Xf fr y=some v)
 (ha:a=some ⟨b,o,none⟩) (hk:ZF xs k=some x0) (hA:At h b (o + k.toNat * e.sz) cs) (ho:oo=o + k.toNat * e.sz + j) (hvs:v.cells.toList=vs) (hn:Nat.beq vs.length sz=true) (hl:Nat.beq cs.length e.sz=true) (hj:Nat.ble (j + vs.length) cs.length=true) (hc:vs.all Value.oneCell'=true) (hv:splice cs j vs=cs') (hsh:cs'=e.sh q y0) (hF:e.F wm h q y0):
 HU X wm ⟨none,.store t x y,ty,p,af,g⟩ fr h (X8 a) (fun h'=>Sp wm T h0 (ow wm e a nn c (ZE xs k y0)::Gr) h'/\At h' b (o + k.toNat * e.sz) cs'):=by
 obtain⟨h1,so⟩:=hS.get pk;have hj:=Nl0 hj;have hn:=Nb0 hn;obtain⟨row,r1,r2,r3,r4⟩:=ZuK so ha hk hA (Nb0 hl) hj (hv.trans hsh) hF;subst ho;obtain⟨e1,e2⟩:=Zzh (d:=none) (ty:=ty) (p:=p) (af:=af) (g:=g) hs hx hy r1 r3 hvs hn (by rw [<- hn];exact r2) hc rfl;have u:Up wm (fun i=>i=b) h (h.put b (.row (splice row (o + k.toNat * e.sz + j) vs) true e.sz)):=Up.put r3 (by rw [r1];rfl);obtain⟨w1,w2⟩:=r4 _ u (XG (QE r1 rfl) _);refine⟨_,_,e1,e2,fun z hz=>?_,by simp,hS.one pk u (fun i e=>by subst e;exact⟨o,ha⟩) ⟨by rw [Zau];exact h1,w1⟩ fun i e=>.inl e,hv ▸ w2⟩;have:b=z:=by simpa [Eff.tgt] using hz
 subst this;exact⟨o,ha⟩
end
end
section
variable {X:Ctx} {n wm:Nat} {rd:Option Nat} {ops:Array Oper} {fr:Fr} {h h1 h2 h0:H} {ty:TypeId} {p:String} {af:Array Edge} {g:Option (Nat×Bool)} {T:Nat ->Prop} {G Gr Ga Gb:List (Ast wm)} {d:Nat}
def Cells (sz:Nat):Type:= {l:List Value // l.length=sz/\l.all Value.oneCell'=true}
def ZkX (sz:Nat) (pos:0 < sz):Ux (Cells sz) where
 sz:=sz
 pos:=pos
 KH:=Unit
 dflt:= ()
 sh:=fun _ x=>x.1
 len:=fun _ x=>x.2.1
 one:=fun _ x=>x.2.2
 F:=fun _ _ _ _=>True
 mono:=fun _ x=>x
 up:=fun _ x=>x
structure Ne (α:Type) where
 sz:Nat
 pos:0 < sz
 KH:Type
 dflt:KH
 sh:KH ->α ->List Value
 len:∀ p x,(sh p x).length=sz
 one:∀ p x,(sh p x).all Value.oneCell'=true
 Xm:(wm:Nat) ->KH ->α ->List (Ast wm)
def Zx {α:Type} (e:Ux α):Ne (List α) where
 sz:=1
 pos:=Nat.one_pos
 KH:=Option Addr×Nat×Nat
 dflt:= (none,0,0)
 sh:=fun p _=>[.slice p.1 p.2.1 p.2.2]
 len:=fun _ _=>rfl
 one:=fun _ _=>rfl
 Xm:=fun wm p x=>[ow wm e p.1 p.2.1 p.2.2 x]
def Zeh {α γ:Type} (r:Nat ->α ->γ):Nat ->List α ->List γ
 | _,[]=>[]
 | k,x::xs=>r k x::Zeh r (k + 1) xs
theorem W9 {α γ:Type} (r:Nat ->α ->γ):∀ (xs:List α) (k:Nat),(Zeh r k xs).length=xs.length
 | [],_=>rfl
 | _::xs,k=>by simp [Zeh,W9 r xs]
theorem Jo {α γ:Type} (r:Nat ->α ->γ):∀ (xs:List α) (k j:Nat),(Zeh r k xs)[j]? =xs[j]?.map (r (k + j))
 | [],_,_=>by simp [Zeh]
 | x::xs,k,0=>by simp [Zeh]
 | x::xs,k,j + 1=>by
   rw [Zeh,List.getElem?_cons_succ,Jo r xs,List.getElem?_cons_succ];congr 2;omega
def Xp {α:Type} {wm:Nat} (f:Nat ->α ->List (Ast wm)):Nat ->List α ->List (Ast wm)
 | _,[]=>[]
 | k,x::xs=>f k x ++ Xp f (k + 1) xs
def Jl {α:Type} {wm:Nat} (i:Nat) (f:Nat ->α ->List (Ast wm)) (k:Nat) (x:α):List (Ast wm):=if k=i then [] else f k x
theorem Wq {α:Type} {f f':Nat ->α ->List (Ast wm)}:∀ (xs:List α) (k:Nat),(∀ j x,k <=j ->f j x=f' j x) ->Xp f k xs=Xp f' k xs
 | [],_,_=>rfl
 | x::xs,k,h=>by rw [Xp,Xp,h k x (Nat.le_refl _),Wq xs (k + 1) fun j x hj=>h j x (by omega)]
theorem Js {α:Type} {f:Nat ->α ->List (Ast wm)}:∀ (xs:List α) (k j:Nat) (x:α),xs[j]? =some x ->(Xp f k xs).Perm (f (k + j) x ++ Xp (Jl (k + j) f) k xs)
 | [],_,_,_,e=>by simp at e
 | y::ys,k,0,x,e=>by
   simp at e;subst e;rw [Nat.add_zero,Xp,Xp];have e1:Jl k f k y= []:=by unfold Jl;rw [if_pos rfl]
   have e2:Xp f (k + 1) ys=Xp (Jl k f) (k + 1) ys:=Wq ys (k + 1) fun j x hj=>by unfold Jl;rw [if_neg (by omega)]
   rw [e1,List.nil_append,e2]
 | y::ys,k,j + 1,x,e=>by
   rw [List.getElem?_cons_succ] at e;have ih:=Js (f:=f) ys (k + 1) j x e;rw [Xp,Xp];have e1:Jl (k + (j + 1)) f k y=f k y:=by unfold Jl;rw [if_neg (by omega)]
   have e2:k + 1 + j=k + (j + 1):=by omega
   rw [e2] at ih;rw [e1];exact(List.Perm.append_left (f k y) ih).trans (by rw [<- List.append_assoc,<- List.append_assoc];exact List.Perm.append_right _ List.perm_append_comm)
theorem Ws {α:Type} {f:Nat ->α ->List (Ast wm)}:∀ (xs:List α) (k j:Nat) (y:α),Xp (Jl (k + j) f) k (xs.set j y)=Xp (Jl (k + j) f) k xs
 | [],_,_,_=>by simp
 | x::xs,k,0,y=>by simp [Xp,Jl]
 | x::xs,k,j + 1,y=>by
   rw [List.set_cons_succ,Xp,Xp];have:=Ws (f:=f) xs (k + 1) j y;have e2:k + 1 + j=k + (j + 1):=by omega
   rw [e2] at this;rw [this]
theorem Zek {α:Type} {f:Nat ->α ->List (Ast wm)}:∀ (xs ys:List α) (k:Nat),Xp f k (xs ++ ys)=Xp f k xs ++ Xp f (k + xs.length) ys
 | [],_,_=>by simp [Xp]
 | x::xs,ys,k=>by
   rw [List.cons_append,Xp,Xp,Zek xs ys,List.append_assoc];congr 3;simp;omega
theorem ZfD {α:Type} {f:Nat ->α ->List (Ast wm)}:∀ (xs:List α) (k j:Nat),Xp f (k + j) xs=Xp (fun i=>f (i + j)) k xs
 | [],_,_=>rfl
 | x::xs,k,j=>by
   rw [Xp,Xp];have:=ZfD (f:=f) xs (k + 1) j;rw [<- this];congr 2;omega
section
variable {α:Type} {e:Ne α}
def Ne.raw (e:Ne α) (p:e.KH) (x:α):Cells e.sz:= ⟨e.sh p x,e.len p x,e.one p x⟩
def Ne.rows (e:Ne α) (ps:Nat ->e.KH) (xs:List α):List (Cells e.sz):=Zeh (fun k x=>e.raw (ps k) x) 0 xs
def Ne.parts (wm:Nat) (e:Ne α) (ps:Nat ->e.KH) (xs:List α):List (Ast wm):=Xp (fun k x=>e.Xm wm (ps k) x) 0 xs
def Ne.but (wm:Nat) (e:Ne α) (i:Nat) (ps:Nat ->e.KH) (xs:List α):List (Ast wm):=Xp (Jl i fun k x=>e.Xm wm (ps k) x) 0 xs
theorem Ym.loc {G:List (Ast wm)} {h':H} (f:Fz wm h h') (k:∀ i,Qe G i ->h'.at i=h.at i) (s:Ym G h):Ym G h':= ⟨fun A hA=>A.loc f (fun i q=>k i ⟨A,hA,q⟩) (s.all A hA),s.dis⟩
theorem Zko {γ:Type} {r:Ux γ} {a:Option Addr} {c i:Nat} {xs:List γ} (s:Qq r wm wm h a c xs) (b:X8 a i):wm <=i/\(h.at i).own=true:=by
 obtain⟨o,e⟩:=b;rcases s.mem with⟨h1,_⟩ | ⟨i,o',cs,q1,q2,q3,_⟩
 ·rw [h1] at e;cases e
 ·rw [q1] at e;cases e;exact⟨q2,by rw [q3];rfl⟩
theorem Zkp {γ:Type} {r:Ux γ} {a:Option Addr} {c:Nat} {xs:List γ} {h':H} (f:Fz wm h h') (k:∀ i,X8 a i ->h'.at i=h.at i) (s:Qq r wm wm h a c xs):Qq r wm wm h' a c xs:=
 ⟨s.max,s.mem.imp id fun⟨i,o,cs,q1,q2,q3,q4,q5,q6⟩=>⟨i,o,cs,q1,q2,by rw [k i ⟨o,q1⟩,q3],q4,q5,q6.mono f⟩⟩
def Yb (wm:Nat) (e:Ne α) (a:Option Addr) (n c:Nat) (ps:Nat ->e.KH) (xs:List α):Ast wm where
 P:=fun h=>n=xs.length/\Qq (ZkX e.sz e.pos) wm wm h a c (e.rows ps xs)/\Ym (e.parts wm ps xs) h/\∀ i,X8 a i ->¬ Qe (e.parts wm ps xs) i
 fp:=fun i=>X8 a i\/Qe (e.parts wm ps xs) i
 loc:=fun f k ⟨h1,s,h2,h3⟩=>⟨h1,Zkp f (fun i q=>k i (.inl q)) s,h2.loc f fun i q=>k i (.inr q),h3⟩
 own:=fun⟨_,s,h2,_⟩ q=>q.elim (Zko s) h2.own
def nsh (wm:Nat) (e:Ne α) (a:Option Addr) (n c:Nat) (ps:Nat ->e.KH) (xs:List α) (i:Nat) (cs:List Value):Ast wm where
 P:=fun h=>n=xs.length/\i < xs.length/\(∃ cl:Cells e.sz,cl.1=cs/\Qq (ZkX e.sz e.pos) wm wm h a c ((e.rows ps xs).set i cl))/\Ym (e.but wm i ps xs) h/\∀ j,X8 a j ->¬ Qe (e.but wm i ps xs) j
 fp:=fun j=>X8 a j\/Qe (e.but wm i ps xs) j
 loc:=fun f k ⟨h1,h0,⟨cl,h4,s⟩,h2,h3⟩=>⟨h1,h0,⟨cl,h4,Zkp f (fun i q=>k i (.inl q)) s⟩,h2.loc f fun i q=>k i (.inr q),h3⟩
 own:=fun⟨_,_,⟨_,_,s⟩,h2,_⟩ q=>q.elim (Zko s) h2.own
def upd {β:Type} (ps:Nat ->β) (i:Nat) (p:β):Nat ->β:=fun k=>if k=i then p else ps k
theorem upd_same {β:Type} (ps:Nat ->β) (i:Nat) (p:β):upd ps i p i=p:=if_pos rfl
theorem Qe.append {Ga Gb:List (Ast wm)} {i:Nat}:Qe (Ga ++ Gb) i↔Qe Ga i\/Qe Gb i:=by
 constructor
 ·rintro⟨A,m,f⟩;rcases List.mem_append.1 m with m | m
  ·exact .inl ⟨A,m,f⟩
  ·exact .inr ⟨A,m,f⟩
 ·rintro(⟨A,m,f⟩ | ⟨A,m,f⟩)
  ·exact⟨A,List.mem_append.2 (.inl m),f⟩
  ·exact⟨A,List.mem_append.2 (.inr m),f⟩
theorem Qe.cons {A:Ast wm} {Gb:List (Ast wm)} {i:Nat}:Qe (A::Gb) i↔A.fp i\/Qe Gb i:=by
 constructor
 ·rintro⟨B,m,f⟩;rcases List.mem_cons.1 m with m | m
  ·subst m;exact .inl f
  ·exact .inr ⟨B,m,f⟩
 ·rintro(f | ⟨B,m,f⟩)
  ·exact⟨A,by simp,f⟩
  ·exact⟨B,by simp [m],f⟩
theorem Ym.cons {A:Ast wm} {G:List (Ast wm)} (a:A.P h) (s:Ym G h) (dj:∀ i,A.fp i ->¬ Qe G i):Ym (A::G) h:=
 ⟨fun B m=>by rcases List.mem_cons.1 m with m | m;· rw [m];exact a
              ·exact s.all B m,List.pairwise_cons.2 ⟨fun B m i f1 f2=>dj i f1 ⟨B,m,f2⟩,s.dis⟩⟩
theorem Ym.append {Ga Gb:List (Ast wm)} (a:Ym Ga h) (s:Ym Gb h) (dj:∀ i,Qe Ga i ->¬ Qe Gb i):Ym (Ga ++ Gb) h:=
 ⟨fun B m=>(List.mem_append.1 m).elim (a.all B) (s.all B),List.pairwise_append.2 ⟨a.dis,s.dis,fun A m B m' i f1 f2=>dj i ⟨A,m,f1⟩ ⟨B,m',f2⟩⟩⟩
theorem Ym.tail {A:Ast wm} {G:List (Ast wm)} (s:Ym (A::G) h):A.P h/\Ym G h/\∀ i,A.fp i ->¬ Qe G i:=
 ⟨s.all A (by simp),Ym.right (Ga:= [A]) s,fun i f ⟨B,m,f'⟩=>(List.pairwise_cons.1 s.dis).1 B m i f f'⟩
theorem Ym.cut {Ga Gb:List (Ast wm)} (s:Ym (Ga ++ Gb) h):∀ i,Qe Ga i ->¬ Qe Gb i:=fun i ⟨A,m,f⟩ ⟨B,m',f'⟩=>(List.pairwise_append.1 s.dis).2.2 A m B m' i f f'
theorem Ym.get {A:Ast wm} {G Gr:List (Ast wm)} (s:Ym G h) (p:Pk G A Gr):A.P h:=s.all A p.mem
variable {a:Option Addr} {nn c:Nat} {ps:Nat ->e.KH} {xs:List α}
theorem Sp.take {k:Int} {x:α} (s:Sp wm T h0 G h) (pk:Pk G (Yb wm e a nn c ps xs) Gr) (hk:ZF xs k=some x):Sp wm T h0 (nsh wm e a nn c ps xs k.toNat (e.sh (ps k.toNat) x)::(e.Xm wm (ps k.toNat) x ++ Gr)) h:=by
 obtain⟨k1,k2,k3⟩:=Qt hk;obtain⟨h1,so,hh,hd⟩:=s.get pk;have hp:=Js (f:=fun k x=>e.Xm wm (ps k) x) xs 0 _ x k3;rw [Nat.zero_add] at hp;have hh2:Ym (e.Xm wm (ps k.toNat) x ++ e.but wm k.toNat ps xs) h:=hh.perm hp;have hfp:∀ i,Qe (e.Xm wm (ps k.toNat) x ++ e.but wm k.toNat ps xs) i ->Qe (e.parts wm ps xs) i:=fun i f=>f.perm hp.symm
 have:Sp wm T h0 ((nsh wm e a nn c ps xs k.toNat (e.sh (ps k.toNat) x)::e.Xm wm (ps k.toNat) x) ++ Gr) h:=by
  refine Sp.say (Ga:= [Yb wm e a nn c ps xs]) (s.perm pk.perm) (Ym.cons ⟨h1,k2,⟨e.raw (ps k.toNat) x,rfl,?_⟩,hh2.right,fun j hj f=>hd j hj (hfp j (Qe.append.2 (.inr f)))⟩ hh2.left fun i hi f=>?_) fun i f=>?_
  ·have:(e.rows ps xs).set k.toNat (e.raw (ps k.toNat) x)=e.rows ps xs:=by
    apply List.ext_getElem?;intro t;rw [List.getElem?_set];by_cases et:k.toNat=t
    ·subst et;rw [if_pos rfl];unfold Ne.rows;rw [W9,if_pos k2,Jo,k3,Nat.zero_add];rfl
    ·rw [if_neg et]
   rw [this];exact so
  ·rcases hi with hi | hi
   ·exact hd i hi (hfp i (Qe.append.2 (.inl f)))
   ·exact hh2.cut i f hi
  ·rcases Qe.cons.1 f with(f | f) | f
   ·exact⟨_,List.mem_singleton.2 rfl,Or.inl f⟩
   ·exact⟨_,List.mem_singleton.2 rfl,Or.inr (hfp i (Qe.append.2 (.inr f)))⟩
   ·exact⟨_,List.mem_singleton.2 rfl,Or.inr (hfp i (Qe.append.2 (.inl f)))⟩
 exact this
theorem Sp.fill {k:Int} {cs:List Value} {x0:α} (p:e.KH) (y:α) (s:Sp wm T h0 G h) (hk:ZF xs k=some x0) (sel:Sel G (nsh wm e a nn c ps xs k.toNat cs::e.Xm wm p y) Gr) (hc:cs=e.sh p y):Sp wm T h0 (Yb wm e a nn c (upd ps k.toNat p) (ZE xs k y)::Gr) h:=by
 obtain⟨k1,k2,k3⟩:=Qt hk;have s:=s.perm sel.perm;obtain⟨⟨h1,_,⟨cl,h3,so⟩,hb,hd⟩,ha,hdj⟩:=s.hold.left.tail
 have hp2:(e.parts wm (upd ps k.toNat p) (ZE xs k y)).Perm (e.Xm wm p y ++ e.but wm k.toNat ps xs):=by
  have hp:=Js (f:=fun j x=>e.Xm wm (upd ps k.toNat p j) x) (ZE xs k y) 0 k.toNat y (by rw [Wp hk,if_pos rfl]);rw [Nat.zero_add,upd_same] at hp;refine hp.trans (List.Perm.append_left _ ?_);unfold ZE;have e1:=Ws (f:=fun j x=>e.Xm wm (upd ps k.toNat p j) x) xs 0 k.toNat y;rw [Nat.zero_add] at e1;rw [e1];unfold Ne.but
  rw [Wq (f:=Jl k.toNat fun j x=>e.Xm wm (upd ps k.toNat p j) x) (f':=Jl k.toNat fun j x=>e.Xm wm (ps j) x) xs 0 fun j x _=>by
   unfold Jl upd;by_cases e2:j=k.toNat
   ·simp only [if_pos e2]
   ·simp only [if_neg e2]]
 have hcl:cl=e.raw p y:=Subtype.ext (h3.trans hc);subst hcl;refine Sp.say (Ga:=_::e.Xm wm p y) (Gb:= [Yb wm e a nn c (upd ps k.toNat p) (ZE xs k y)]) s (Ym.one ⟨by rw [Zau];exact h1,?_,(ha.append hb fun i f f'=>hdj i (.inr f') f).perm hp2.symm,fun j hj f=>?_⟩) fun i ⟨B,hm,f⟩=>?_
 ·have:e.rows (upd ps k.toNat p) (ZE xs k y)= (e.rows ps xs).set k.toNat (e.raw p y):=by
   apply List.ext_getElem?;intro t;unfold Ne.rows;rw [Jo,Wp hk,List.getElem?_set,W9,Jo,Nat.zero_add];by_cases et:t=k.toNat
   ·subst et;rw [if_pos rfl,if_pos rfl,if_pos k2,upd_same];rfl
   ·rw [if_neg et,if_neg (fun z=>et z.symm)];unfold upd;rw [if_neg et]
  rw [this];exact so
 ·rcases Qe.append.1 (f.perm hp2) with f | f
  ·exact hdj j (.inl hj) f
  ·exact hd j hj f
 ·rw [List.mem_singleton.1 hm] at f;rcases f with f | f
  ·exact Qe.cons.2 (.inl (.inl f))
  ·rcases Qe.append.1 (f.perm hp2) with f | f
   ·exact Qe.cons.2 (.inr f)
   ·exact Qe.cons.2 (.inl (.inr f))
theorem Zgy {k:Int} {x:α} (hk:ZF xs k=some x):ZF (e.rows ps xs) k=some (e.raw (ps k.toNat) x):=by
 obtain⟨k1,k2,k3⟩:=Qt hk;rw [<- k1,Zdf];unfold Ne.rows;rw [Jo,k3,Nat.zero_add];rfl
theorem Sp.atN {k:Int} {x:α} (s:Sp wm T h0 G h) (pk:Pk G (Yb wm e a nn c ps xs) Gr) (hk:ZF xs k=some x):∃ b o p,ps k.toNat=p/\a=some ⟨b,o,none⟩/\At h b (o + k.toNat * e.sz) (e.sh p x):=by
 obtain⟨b,o,_,h1,h2,_⟩:=Src.at_ (s.get pk).2.1.src (Zgy (ps:=ps) hk);exact⟨b,o,_,rfl,h1,h2⟩
theorem Sp.ZHI {k:Int} {x:α} {b o:Nat} {p:e.KH} (s:Sp wm T h0 G h) (pk:Pk G (Yb wm e a nn c ps xs) Gr) (hk:ZF xs k=some x) (hp:ps k.toNat=p) (ha:a=some ⟨b,o,none⟩):At h b (o + k.toNat * e.sz) (e.sh p x):=by
 obtain⟨b',o',p',h1,h2,h3⟩:=s.atN pk hk;rw [ha] at h2;cases h2;rw [hp] at h1;subst h1;exact h3
theorem Sp.inN {k:Int} {x:α} {p:e.KH} (s:Sp wm T h0 G h) (pk:Pk G (Yb wm e a nn c ps xs) Gr) (hk:ZF xs k=some x) (hp:ps k.toNat=p):Ym (e.Xm wm p x) h:=by
 obtain⟨k1,k2,k3⟩:=Qt hk;have hpm:=Js (f:=fun k x=>e.Xm wm (ps k) x) xs 0 _ x k3;rw [Nat.zero_add] at hpm;subst hp;exact((s.get pk).2.2.1.perm hpm).left
theorem Sp.JL (s:Sp wm T h0 G h) (pk:Pk G (Yb wm e a nn c ps xs) Gr):nn=xs.length:= (s.get pk).1
theorem Sp.atH {k:Int} {x:α} {b o:Nat} {cs:List Value} (s:Sp wm T h0 G h) (pk:Pk G (nsh wm e a nn c ps xs k.toNat cs) Gr) (hk:ZF xs k=some x) (ha:a=some ⟨b,o,none⟩):At h b (o + k.toNat * e.sz) cs:=by
 obtain⟨_,h2,⟨cl,h3,so⟩,_⟩:=s.get pk;obtain⟨k1,k2,k3⟩:=Qt hk
 have:ZF ((e.rows ps xs).set k.toNat cl) k=some cl:=by
  have:=JI (y:=cl) (Zgy (e:=e) (ps:=ps) hk);exact this
 obtain⟨b',o',_,h1,h2,_⟩:=Src.at_ so.src this;rw [ha] at h1;cases h1;subst h3;exact h2
theorem Uf {x y:Operand} {t:TypeId} {b o j oo sz:Nat} {k:Int} {x0:α} {cs cs' vs:List Value} {v:Value} (hS:Sp wm T h0 G h) (pk:Pk G (nsh wm e a nn c ps xs k.toNat cs) Gr) (hs:Xo X.P t=some sz) (hx:Xf fr x=some (.pointer (some ⟨b,oo,none⟩))) (hy:Xf fr y=some v)
 (ha:a=some ⟨b,o,none⟩) (hk:ZF xs k=some x0) (ho:oo=o + k.toNat * e.sz + j) (hvs:v.cells.toList=vs) (hn:Nat.beq vs.length sz=true) (hl:Nat.beq cs.length e.sz=true) (hj:Nat.ble (j + vs.length) cs.length=true) (hc:vs.all Value.oneCell'=true) (hv:splice cs j vs=cs') (h1:Nat.beq cs'.length e.sz=true) (h2:cs'.all Value.oneCell'=true):
 HU X wm ⟨none,.store t x y,ty,p,af,g⟩ fr h (X8 a) (fun h'=>Sp wm T h0 (nsh wm e a nn c ps xs k.toNat cs'::Gr) h'):=by
 obtain⟨w1,w2,⟨cl,w3,so⟩,w4,w5⟩:=hS.get pk;have hA:=hS.atH pk hk ha;have hg:ZF ((e.rows ps xs).set k.toNat cl) k=some cl:=JI (y:=cl) (Zgy (e:=e) (ps:=ps) hk);have hj:=Nl0 hj;have hn:=Nb0 hn;obtain⟨row,r1,r2,r3,r4⟩:=ZuK (y:= (⟨cs',Nb0 h1,h2⟩:Cells e.sz)) (q:= ()) so ha hg hA (Nb0 hl) hj hv trivial;have hsz:(ZkX e.sz e.pos).sz=e.sz:=rfl;rw [hsz] at r2 r4;subst ho;obtain⟨e1,e2⟩:=Zzh (d:=none) (ty:=ty) (p:=p) (af:=af) (g:=g) hs hx hy r1 r3 hvs hn (by rw [<- hn];exact r2) hc rfl;have u:Up wm (fun i=>i=b) h (h.put b (.row (splice row (o + k.toNat * e.sz + j) vs) true e.sz)):=Up.put r3 (by rw [r1];rfl);obtain⟨z1,z2⟩:=r4 _ u (XG (QE r1 rfl) _);refine⟨_,_,e1,e2,fun z hz=>?_,by simp,hS.one pk u (fun i e=>by subst e;exact .inl ⟨o,ha⟩) ⟨w1,w2,⟨⟨cs',Nb0 h1,h2⟩,rfl,?_⟩,w4.loc (u.fz (Nat.le_refl _)) fun i f=>u.keep i (Zc6 (w4.own f).2) fun e=>w5 b ⟨o,ha⟩ (e ▸ f),w5⟩ fun i e=>.inl e⟩
 ·have:b=z:=by simpa [Eff.tgt] using hz
  subst this;exact⟨o,ha⟩
 ·have:(e.rows ps xs).set k.toNat (⟨cs',Nb0 h1,h2⟩:Cells e.sz)=ZE ((e.rows ps xs).set k.toNat cl) k ⟨cs',Nb0 h1,h2⟩:= (List.set_set _).symm;rw [this];exact z1
end
end
section
variable {X:Ctx} {n wm:Nat} {rd:Option Nat} {ops:Array Oper} {fr:Fr} {h h1 h2 h0:H} {ty:TypeId} {p:String} {af:Array Edge} {g:Option (Nat×Bool)} {T:Nat ->Prop} {G Gr Ga Gb:List (Ast wm)} {d:Nat}
structure NeR {α:Type} (e:Ne α) (r:Ux α):Prop where
 sz:e.sz=r.sz
 rd:∀ {wm:Nat} {h:H} {p:e.KH} {x:α},wm <=h.size ->Ym (e.Xm wm p x) h ->∃ q,e.sh p x=r.sh q x/\r.F h.size h q x
theorem Zp {α:Type} {e:Ux α}:NeR (Zx e) (Xn e):= ⟨rfl,fun{wm h p x} hw hh=>by
 obtain⟨h1,h2⟩:=hh.get (A:=ow wm e p.1 p.2.1 p.2.2 x) .z;exact⟨(p.1,p.2.2),by show [Value.slice _ _ _]= [Value.slice _ _ _];rw [h1],h2.src.sl hw⟩⟩
section
variable {α:Type} {e:Ne α} {a:Option Addr} {nn c:Nat} {ps:Nat ->e.KH} {xs:List α}
theorem JX (ps:Nat ->e.KH) (xs:List α):(e.rows ps xs).length=xs.length:=W9 _ _ _
theorem Sp.Yq {r:Ux α} (s:Sp wm T h0 G h) (pk:Pk G (Yb wm e a nn c ps xs) Gr) (er:NeR e r):Sl r h.size h a c xs:=by
 obtain⟨h1,so,hh,_⟩:=s.get pk;have hm:=so.max;have hc:=so.cap;rw [JX] at hm hc;refine⟨hm,hc,so.nl,?_⟩;rcases so.mem with⟨_,_,q⟩ | ⟨i,o,cs,q1,q2,q3,q4,q5,q6⟩
 ·left;have:=JX ps xs;rw [q] at this;exact List.length_eq_zero_iff.1 this.symm
 ·right;refine⟨i,o,cs,true,_,q1,q3,.inl (QE q3 rfl),⟨?_,fun k x hk=>?_⟩⟩
  ·have:=q6.len;rw [JX] at this;rw [<- er.sz];exact this
  ·have hk':(e.rows ps xs)[k]? =some (e.raw (ps k) x):=by unfold Ne.rows;rw [Jo,hk,Nat.zero_add];rfl
   obtain⟨_,g1,_⟩:=q6.get k _ hk';have hpm:=Js (f:=fun k x=>e.Xm wm (ps k) x) xs 0 _ x hk;rw [Nat.zero_add] at hpm;obtain⟨q,z1,z2⟩:=er.rd s.hw ((hh.perm hpm).left);exact⟨q,by rw [<- z1,<- er.sz];exact g1,z2⟩
theorem Sp.Zec (s:Sp wm T h0 G h) {ps:Nat ->e.KH}:Sp wm T h0 (Yb wm e none 0 0 ps []::G) h:=s.add ⟨rfl,Qq.nil,Ym.nil,fun i=>X8.none.elim⟩ fun i f=>f.elim X8.none fun⟨A,m,_⟩=>by simp [Ne.parts,Xp] at m
theorem ZQB {t el:TypeId} {pvs:List (Nat×Value)} {z:Value} {zs:List Value} {ps:Array (Nat×Operand)} (q:e.KH) (x:α) (hS:Sp wm T h0 G h) (sel:Sel G (e.Xm wm q x) Gr)
 (hu:X.P.underlying t=some (.slice el)) (hs:Xo X.P el=some e.sz) (hz:X0 X.P el=some z) (hzs:z.cells.toList=zs) (hzl:zs.length=e.sz) (hm:Nat.ble (1 * e.sz) 10000=true) (hp:evp (Xf fr) ps.toList=some pvs)
 (ho:ZeI (fun i=>some (i * e.sz,e.sz)) (UI zs 1).length pvs=true) (hv:ZjJ (fun i=>i * e.sz) (UI zs 1) pvs=e.sh q x):
 HN X wm ⟨some d,.buildSlice t 1 ps,ty,p,af,g⟩ fr h (fun v h'=>∃ b,h.size=b/\v= .slice (some ⟨b,0,none⟩) 1 2/\Sp wm T h0 (Yb wm e (some ⟨b,0,none⟩) 1 2 (fun _=>q) [x]::Gr) h'):=by
 refine⟨.slice (some ⟨h.size,0,none⟩) 1 2,.row (e.sh q x) true e.sz,rfl,fun g' hz'=>?_,fun h' u hat _=>⟨h.size,rfl,rfl,?_⟩⟩
 ·show(match evp (Xf fr) ps.toList with
   | some ps=>vE (Zkq X.P g' t 1 ps)
   | none=>none)=_
  rw [hp];dsimp only;unfold Zkq;rw [hu];dsimp only;rw [hs,hz];dsimp only;rw [hzs,hzl];have b1:Nat.ble 1 e.sz=true:=Nm0 e.pos;rw [b1,hm,Nat.beq_refl];simp only [Bool.and_self,Cq1];rw [Zkv (off:=fun i=>i * e.sz) (fun i p e=>by cases e;rfl) _ _ ho,hv,hz']
  rfl
 ·have hS:=hS.perm sel.perm;have hf:Fz wm h h':=u.fz (Nat.le_refl _);have hold:Ym (e.Xm wm q x) h':=hS.hold.left.loc hf fun i f=>u.keep i (Zc6 (hS.hold.left.own f).2) fun z=>z
  have hlt:∀ i,Qe (e.Xm wm q x) i ->i < h.size:=fun i f=>Zc6 (hS.hold.left.own f).2
  have e1:e.parts wm (fun _=>q) [x]=e.Xm wm q x:=by unfold Ne.parts;simp [Xp]
  refine Sp.step (Ga:=e.Xm wm q x) (Gb:= [Yb wm e (some ⟨h.size,0,none⟩) 1 2 (fun _=>q) [x]]) hS u (fun _ z=>z.elim) (Ym.one ⟨rfl,?_,by rw [e1];exact hold,fun i ⟨o,hb⟩ f=>?_⟩) fun i ⟨A,hm,f⟩=>?_
  ·have hrow:(ZkX e.sz e.pos).sz=e.sz:=rfl;refine Qq.mk' (by show 1 <=_;omega) hS.hw hat (by show 1 <=_;omega) (by rw [hrow,e.len];omega) ⟨by rw [hrow,e.len];show 0 + 1 * e.sz <=e.sz;omega,fun k y hk=>⟨(),?_,trivial⟩⟩;cases k with
   | zero=>
     simp [Ne.rows,Zeh] at hk;subst hk;rw [hrow,Nat.zero_mul,Nat.zero_add,List.drop_zero,List.take_of_length_le (by rw [e.len];exact Nat.le_refl _)];rfl
   | succ k=>simp [Ne.rows,Zeh] at hk
  ·cases hb;rw [e1] at f;exact absurd (hlt _ f) (Nat.lt_irrefl _)
  ·rw [List.mem_singleton.1 hm] at f;rcases f with⟨o,hb⟩ | f
   ·cases hb;exact .inr (Nat.le_refl _)
   ·rw [e1] at f;exact .inl f
def cat {β:Type} (k:Nat) (ps qs:Nat ->β):Nat ->β:=fun j=>if j < k then ps j else qs (j - k)
theorem ZpR (ps qs:Nat ->e.KH) (xs ys:List α):e.rows (cat xs.length ps qs) (xs ++ ys)=e.rows ps xs ++ e.rows qs ys:=by
 apply List.ext_getElem?;intro t;unfold Ne.rows;rw [Jo];by_cases ht:t < xs.length
 ·rw [List.getElem?_append_left ht,List.getElem?_append_left (by rw [W9];exact ht),Jo,Nat.zero_add];unfold cat;rw [if_pos ht]
 ·rw [List.getElem?_append_right (by omega),List.getElem?_append_right (by rw [W9];omega),Jo,W9,Nat.zero_add,Nat.zero_add];unfold cat;rw [if_neg ht]
theorem Zb1 (ps qs:Nat ->e.KH) (xs ys:List α):e.parts wm (cat xs.length ps qs) (xs ++ ys)=e.parts wm ps xs ++ e.parts wm qs ys:=by
 unfold Ne.parts;rw [Zek];congr 1
 ·have:∀ (zs:List α) (k:Nat),k + zs.length <=xs.length ->Xp (fun j x=>e.Xm wm (cat xs.length ps qs j) x) k zs=Xp (fun j x=>e.Xm wm (ps j) x) k zs:=by
   intro zs
   induction zs with
   | nil=>intro k _;rfl
   | cons z zs ih=>intro k hk;rw [Xp,Xp,ih (k + 1) (by simp at hk;omega)];unfold cat;rw [if_pos (by simp at hk;omega)]
  exact this xs 0 (by omega)
 ·rw [Nat.zero_add];have:=ZfD (f:=fun j x=>e.Xm wm (cat xs.length ps qs j) x) ys 0 xs.length;rw [Nat.zero_add] at this;rw [this];exact Wq ys 0 fun j x _=>by unfold cat;rw [if_neg (by omega)];congr 2;omega
theorem ZlE {ts:Array TypeId} {x y:Operand} {JO:Nat} {a2:Option Addr} {n2 c2:Nat} {qs:Nat ->e.KH} {ys zs:List α} (hS:Sp wm T h0 G h) (sel:Sel G [Yb wm e a nn c ps xs,Yb wm e a2 n2 c2 qs ys] Gr) (hi:Zeq X.P ts e.sz JO) (hx:Xf fr x=some (.slice a nn c)) (hy:Xf fr y=some (.slice a2 n2 c2)) (ha:app JO xs ys=some zs):
 HV X wm ⟨some d,.call {callee:= .builtin .append,args:=#[x,y],argTypes:=ts},ty,p,af,g⟩ fr h (X8 a) (fun v h'=>∃ (a':Option Addr) (c':Nat) (ps':Nat ->e.KH),v= .slice a' zs.length c'/\Sp wm T h0 (Yb wm e a' zs.length c' ps' zs::Gr) h'):=by
 have hP:=hS.perm sel.perm;obtain⟨⟨h1,so,hh,hd⟩,ht,hdj⟩:=hP.hold.left.tail;obtain⟨h3,so2,hh2,hd2⟩:=ht.get .z;obtain⟨rfl,hbd⟩:=Zgc ha;subst h1 h3;have ha2:app JO (e.rows ps xs) (e.rows qs ys)=some (e.rows ps xs ++ e.rows qs ys):=Zuc (by rw [JX,JX];exact hbd);have hx':Xf fr x=some (.slice a (e.rows ps xs).length c):=by rw [JX];exact hx
 have hy':Xf fr y=some (.slice a2 (e.rows qs ys).length c2):=by rw [JX];exact hy
 refine ZEi (e:=ZkX e.sz e.pos) (K:=HV X wm ⟨some d,.call {callee:= .builtin .append,args:=#[x,y],argTypes:=ts},ty,p,af,g⟩ fr h (X8 a) (fun v h'=>∃ (a':Option Addr) (c':Nat) (ps':Nat ->e.KH),v= .slice a' (xs ++ ys).length c'/\Sp wm T h0 (Yb wm e a' (xs ++ ys).length c' ps' (xs ++ ys)::Gr) h'))
  (J:=fun v h'=>Up wm (X8 a) h h'/\∃ (a':Option Addr) (c':Nat) (ps':Nat ->e.KH),v= .slice a' (xs ++ ys).length c'/\Sp wm T h0 (Yb wm e a' (xs ++ ys).length c' ps' (xs ++ ys)::Gr) h') wm (fun v E h1 e1 e2 ⟨u,j⟩=>⟨v,E,h1,e1,e2,fun x0 hx0=>ZEh hx hy e1 hx0,u.size,j⟩) hi (Nat.le_refl _) hS.hw hx' hy' so so2.src ha2
  (fun a' c' h' u so' hb=>⟨u,a',c',cat xs.length ps qs,by rw [List.length_append,JX,JX,List.length_append],?_⟩)
 have hf:Fz wm h h':=u.fz (Nat.le_refl _)
 have hsep:∀ i,Qe (e.parts wm ps xs ++ e.parts wm qs ys) i ->¬ X8 a i:=fun i f hb=>by
  rcases Qe.append.1 f with f | f
  ·exact hd i hb f
  ·exact hdj i (.inl hb) ⟨_,List.mem_singleton.2 rfl,.inr f⟩
 have hhp:Ym (e.parts wm ps xs ++ e.parts wm qs ys) h:=hh.append hh2 fun i f f'=>hdj i (.inr f) ⟨_,List.mem_singleton.2 rfl,.inr f'⟩
 refine Sp.step (Gb:= [Yb wm e a' (xs ++ ys).length c' (cat xs.length ps qs) (xs ++ ys)]) hP u (fun i hb=>⟨Yb wm e a xs.length c ps xs,by simp,Or.inl hb⟩) (Ym.one ⟨rfl,by rw [ZpR];exact so',by rw [Zb1];exact hhp.loc hf fun i f=>u.keep i (Zc6 (hhp.own f).2) (hsep i f),fun i hb' f=>?_⟩) fun i ⟨A,hm,f⟩=>?_
 ·rw [Zb1] at f;rcases hb i hb' with z | z
  ·exact hsep i f z
  ·subst z;exact absurd (Zc6 (hhp.own f).2) (Nat.lt_irrefl _)
 ·rw [List.mem_singleton.1 hm] at f;rcases f with f | f
  ·rcases hb i f with z | z
   ·exact .inl ⟨Yb wm e a xs.length c ps xs,by simp,Or.inl z⟩
   ·exact .inr (Nat.le_of_eq z.symm)
  ·rw [Zb1] at f;rcases Qe.append.1 f with f | f
   ·exact .inl ⟨Yb wm e a xs.length c ps xs,by simp,Or.inr f⟩
   ·exact .inl ⟨Yb wm e a2 ys.length c2 qs ys,by simp,Or.inr f⟩
end
end
section
variable {X:Ctx} {n wm:Nat} {rd:Option Nat} {ops:Array Oper} {l:List Oper} {fr:Fr} {h h1 h2 h0:H} {ty:TypeId} {p:String} {af:Array Edge} {g:Option (Nat×Bool)} {T:Nat ->Prop} {G Gr Ga Gb:List (Ast wm)} {d m:Nat} {sf:ST}
theorem Zqf {α:Type} {z:α} {JO:Nat} {a b:Int} {xs:List α} (hm:mkL z JO a b=some xs):∃ k c:Nat,a= (k:Int)/\b= (c:Int)/\k <=c/\JO * c <=100000/\xs=List.replicate k z:=by
 unfold mkL at hm;by_cases h1:0 <=a
 ·rw [decide_eq_true h1,Bool.true_and] at hm;by_cases h2:a <=b
  ·rw [decide_eq_true h2,Bool.true_and] at hm;cases h3:Nat.ble (JO * b.toNat) 100000 with
   | false=>rw [h3] at hm;cases hm
   | true=>
     rw [h3] at hm;cases hm;exact⟨a.toNat,b.toNat,by omega,by omega,by omega,Nl0 h3,rfl⟩
  ·rw [decide_eq_false h2] at hm;cases hm
 ·rw [decide_eq_false h1] at hm;cases hm
theorem Zlu (zs:List Value) (c k:Nat) (hk:k < c):((UI zs c).drop (k * zs.length)).take zs.length=zs:=by
 apply List.ext_getElem?;intro t;by_cases ht:t < zs.length
 ·rw [List.getElem?_take_of_lt ht,List.getElem?_drop];unfold UI
  have hlt:k * zs.length + t < c * zs.length:=by
   have:(k + 1) * zs.length <=c * zs.length:=Nat.mul_le_mul_right _ hk;rw [Nat.succ_mul] at this;omega
  rw [List.getElem?_map,List.getElem?_range hlt];have:(k * zs.length + t) % zs.length=t:=by rw [Nat.mul_comm,Nat.mul_add_mod,Nat.mod_eq_of_lt ht]
  rw [Option.map_some,this,List.getD_eq_getElem?_getD,List.getElem?_eq_getElem ht];rfl
 ·rw [List.getElem?_eq_none (by rw [List.length_take];omega),List.getElem?_eq_none (by omega)]
theorem Zr1 {P:Program} {t el:TypeId} {z:Value} {sz JO k c:Nat} {ki kj:IntKind} (hu:P.underlying t=some (.slice el)) (hs:Xo P el=some sz) (hb:Za4 P el=some JO) (hz:X0 P el=some z) (hp:0 < sz) (hbp:Nat.ble 1 JO=true) (hzl:z.cells.toList.length=sz) (hk:k <=c) (hc:JO * c <=100000):
 Zkr P h t (.int ki (k:Int)) (.int kj (c:Int))=some (.slice (some ⟨h.size,0,none⟩) k (2 * c),.new (.row (UI z.cells.toList c) true sz)):=by
 unfold Zkr;rw [hu];have e1:Zc8 (.int ki (k:Int))=some k:=rfl;have e2:Zc8 (.int kj (c:Int))=some c:=rfl;rw [e1,e2];dsimp only;rw [hs,hb,hz];dsimp only;rw [hbp,Nm0 hk,Nm0 hc,hzl,Nat.beq_refl,Nm0 (show 1 <=sz from hp)];rfl
section
variable {α:Type} {e:Ux α}
theorem ZId {t el:TypeId} {x y:Operand} {JO:Nat} {a b:Int} {z:Value} {zs:List Value} {x0:α} {xs:List α} {ki kj:IntKind} (q0:e.KH) (hS:Sp wm T h0 G h) (hu:X.P.underlying t=some (.slice el)) (hs:Xo X.P el=some e.sz) (hb:Za4 X.P el=some JO) (hz:X0 X.P el=some z) (hzs:z.cells.toList=zs) (hbp:Nat.ble 1 JO=true)
 (hx:Xf fr x=some (.int ki a)) (hy:Xf fr y=some (.int kj b)) (hsh:zs=e.sh q0 x0) (hF:e.F wm h q0 x0) (hm:mkL x0 JO a b=some xs):
 HN X wm ⟨some d,.makeSlice t x y,ty,p,af,g⟩ fr h (fun v h'=>∃ (b:Nat) (c':Nat),h.size=b/\v= .slice (some ⟨b,0,none⟩) xs.length c'/\Sp wm T h0 (ow wm e (some ⟨b,0,none⟩) xs.length c' xs::G) h'):=by
 obtain⟨k,c,rfl,rfl,hkc,hbc,rfl⟩:=Zqf hm;subst hzs;have hzl:z.cells.toList.length=e.sz:=by rw [hsh,e.len]
 refine⟨.slice (some ⟨h.size,0,none⟩) k (2 * c),.row (UI z.cells.toList c) true e.sz,rfl,fun g' hg=>?_,fun h' u hat _=>⟨h.size,2 * c,rfl,by rw [List.length_replicate],hS.new u ⟨rfl,?_⟩ fun i ⟨o,e⟩=>by cases e;exact Nat.le_refl _⟩⟩
 ·show(match Xf fr x,Xf fr y with | some l,some c=>vE (Zkr X.P g' t l c) | _,_=>none)=_;rw [hx,hy];dsimp only;rw [Zr1 hu hs hb hz e.pos hbp hzl hkc hbc,hg];rfl
 ·have ZL2:=Nl0 hbp
  have hc1:c <=100000:=by
   have:1 * c <=JO * c:=Nat.mul_le_mul_right _ ZL2;omega
  have h2c:2 * c / 2=c:=by omega
  refine Qq.mk' (by rw [List.length_replicate];omega) hS.hw hat (by rw [List.length_replicate,h2c];exact hkc) (by rw [h2c,Kr,hzl];exact Nat.le_refl _) ⟨by rw [List.length_replicate,Kr,hzl,Nat.zero_add];exact Nat.mul_le_mul_right _ hkc,fun j w hj=>?_⟩
  have hjk:j < k:=by
   have:= (Li0 hj).1
   rwa [List.length_replicate] at this
  rw [List.getElem?_replicate,if_pos hjk] at hj;cases hj;refine⟨q0,?_,e.mono (u.fz (Nat.le_refl _)) hF⟩;rw [Nat.zero_add,<- hzl,Zlu _ _ _ (by omega),hsh]
end
section
variable {α:Type} {e:Ne α}
theorem Zuz {t el:TypeId} {x y:Operand} {JO:Nat} {a b:Int} {z:Value} {zs:List Value} {x0:α} {xs:List α} {ki kj:IntKind} (q0:e.KH) (hS:Sp wm T h0 G h) (hu:X.P.underlying t=some (.slice el)) (hs:Xo X.P el=some e.sz) (hb:Za4 X.P el=some JO) (hz:X0 X.P el=some z) (hzs:z.cells.toList=zs) (hbp:Nat.ble 1 JO=true)
 (hx:Xf fr x=some (.int ki a)) (hy:Xf fr y=some (.int kj b)) (hsh:zs=e.sh q0 x0) (hh:∀ h:H,Ym (e.Xm wm q0 x0) h) (hf:∀ i,¬ Qe (e.Xm wm q0 x0) i) (hm:mkL x0 JO a b=some xs):
 HN X wm ⟨some d,.makeSlice t x y,ty,p,af,g⟩ fr h (fun v h'=>∃ (b:Nat) (c':Nat),h.size=b/\v= .slice (some ⟨b,0,none⟩) xs.length c'/\Sp wm T h0 (Yb wm e (some ⟨b,0,none⟩) xs.length c' (fun _=>q0) xs::G) h'):=by
 obtain⟨k,c,rfl,rfl,hkc,hbc,rfl⟩:=Zqf hm;subst hzs;have hzl:z.cells.toList.length=e.sz:=by rw [hsh,e.len]
 have hfp:∀ (j k0:Nat) (i:Nat),¬ Qe (Xp (fun k x=>e.Xm wm ((fun _=>q0) k) x) k0 (List.replicate j x0)) i:=by
  intro j
  induction j with
  | zero=>intro k0 i ⟨A,hm,_⟩;simp [Xp] at hm
  | succ j ih=>intro k0 i f;rw [List.replicate_succ,Xp] at f;exact(Qe.append.1 f).elim (hf i) (ih _ i)
 have hho:∀ (j k0:Nat) (h:H),Ym (Xp (fun k x=>e.Xm wm ((fun _=>q0) k) x) k0 (List.replicate j x0)) h:=by
  intro j
  induction j with
  | zero=>intro k0 h;exact Ym.nil
  | succ j ih=>intro k0 h;rw [List.replicate_succ,Xp];exact(hh h).append (ih _ h) fun i f _=>hf i f
 refine⟨.slice (some ⟨h.size,0,none⟩) k (2 * c),.row (UI z.cells.toList c) true e.sz,rfl,fun g' hg=>?_,fun h' u hat _=>⟨h.size,2 * c,rfl,by rw [List.length_replicate],hS.new u ⟨rfl,?_,hho _ _ _,fun i _=>hfp _ _ i⟩ fun i f=>?_⟩⟩
 ·show(match Xf fr x,Xf fr y with | some l,some c=>vE (Zkr X.P g' t l c) | _,_=>none)=_;rw [hx,hy];dsimp only;rw [Zr1 hu hs hb hz e.pos hbp hzl hkc hbc,hg];rfl
 ·have ZL2:=Nl0 hbp
  have hc1:c <=100000:=by
   have:1 * c <=JO * c:=Nat.mul_le_mul_right _ ZL2;omega
  have h2c:2 * c / 2=c:=by omega
  have hsz:(ZkX e.sz e.pos).sz=e.sz:=rfl;refine Qq.mk' (by rw [JX,List.length_replicate];omega) hS.hw hat (by rw [JX,List.length_replicate,h2c];exact hkc) (by rw [h2c,Kr,hzl];exact Nat.le_refl _) ⟨by rw [JX,List.length_replicate,Kr,hzl,Nat.zero_add];exact Nat.mul_le_mul_right _ hkc,fun j w hj=>?_⟩;unfold Ne.rows at hj;rw [Jo] at hj;by_cases hjk:j < k
  ·rw [List.getElem?_replicate,if_pos hjk] at hj;cases hj;refine⟨(),?_,trivial⟩;have hzp:=Zlu z.cells.toList c j (by omega);rw [hzl] at hzp;rw [Nat.zero_add,hsz,hzp,hsh];rfl
  ·rw [List.getElem?_replicate,if_neg hjk] at hj;cases hj
 ·rcases f with⟨o,e⟩ | f
  ·cases e;exact Nat.le_refl _
  ·exact absurd f (hfp _ _ i)
end
theorem Zjm {α:Type} {e:Ux α}:(∀ h:H,Ym ((Zx e).Xm wm (none,0,0) ([]:List α)) h)/\∀ i,¬ Qe ((Zx e).Xm wm (none,0,0) ([]:List α)) i:=
 ⟨fun h=>Ym.one ⟨rfl,Qq.nil⟩,fun i ⟨A,hm,f⟩=>by
   rw [List.mem_singleton.1 (show A ∈ [ow wm e none 0 0 []] from hm)] at f;exact X8.none f⟩
structure Zpg {α:Type} (e:Ux α) (a:Option Addr) (c:Nat) (xs:List α) (a':Option Addr) (c':Nat) (zs:List α):Prop where
 own:∀ {wm:Nat} {h:H},Qq e wm wm h a c xs ->Qq e wm wm h a' c' zs
 sl:∀ {wm:Nat} {h:H},Sl e wm h a c xs ->Sl e wm h a' c' zs
 base:∀ i,X8 a' i ->X8 a i
theorem Zat {α:Type} {xs zs:List α} {lo hi:Int} (hz:slL xs lo hi=some zs):∃ l k:Nat,lo= (l:Int)/\hi= (k:Int)/\l <=k/\k <=xs.length/\zs= (xs.take k).drop l:=by
 unfold slL at hz;by_cases h1:0 <=lo
 ·rw [decide_eq_true h1,Bool.true_and] at hz;by_cases h2:lo <=hi
  ·rw [decide_eq_true h2,Bool.true_and] at hz;by_cases h3:hi <=xs.length
   ·rw [decide_eq_true h3] at hz;cases hz;exact⟨lo.toNat,hi.toNat,by omega,by omega,by omega,by omega,rfl⟩
   ·rw [decide_eq_false h3] at hz;cases hz
  ·rw [decide_eq_false h2] at hz;cases hz
 ·rw [decide_eq_false h1] at hz;cases hz
theorem Jd.piece {α:Type} {e:Ux α} {cs:List Value} {o:Nat} {xs:List α} {l k:Nat} (a:Jd e wm h cs o xs) (hl:l <=k) (hk:k <=xs.length):Jd e wm h cs (o + l * e.sz) ((xs.take k).drop l):=by
 have hlen:((xs.take k).drop l).length=k - l:=by rw [List.length_drop,List.length_take];omega
 refine⟨?_,fun j x hj=>?_⟩
 ·rw [hlen];have:=a.len;have h1:k * e.sz <=xs.length * e.sz:=Nat.mul_le_mul_right _ hk;have h2:l * e.sz + (k - l) * e.sz=k * e.sz:=by rw [<- Nat.add_mul];congr 1;omega
  omega
 ·have hjl:j < k - l:=by have:= (Li0 hj).1;rwa [hlen] at this
  rw [List.getElem?_drop,List.getElem?_take_of_lt (by omega)] at hj;obtain⟨q,g1,g2⟩:=a.get _ x hj;refine⟨q,?_,g2⟩;rw [<- g1,Nat.add_mul];congr 2;omega
theorem Zi0 {α:Type} {e:Ux α} {i o c:Nat} {xs:List α} {l k o' c':Nat} (hl:l <=k) (hk:k <=xs.length) (hc:(o'=o + l * e.sz/\c' / 2=c / 2 - l)\/(o'=o/\c / 2=l/\c' / 2=0)):
 Zpg e (some ⟨i,o,none⟩) c xs (some ⟨i,o',none⟩) c' ((xs.take k).drop l):=by
 have hlen:((xs.take k).drop l).length=k - l:=by rw [List.length_drop,List.length_take];omega
 refine⟨fun{wm h} s=>?_,fun{wm h} s=>?_,fun i' ⟨o2,e2⟩=>by cases e2;exact⟨o,rfl⟩⟩
 ·rcases s.mem with⟨q,_⟩ | ⟨i',o2,cs,q1,q2,q3,q4,q5,q6⟩
  ·cases q
  ·cases q1;have hmx:=s.max;refine⟨by rw [hlen];omega,.inr ⟨i,o',cs,rfl,q2,q3,?_,?_,?_⟩⟩
   ·rw [hlen];rcases hc with⟨_,z⟩ | ⟨_,z1,z2⟩
    ·rw [z];omega
    ·omega
   ·rcases hc with⟨z0,z⟩ | ⟨z0,z1,z2⟩
    ·rw [z,z0];have h2:l * e.sz + (c / 2 - l) * e.sz=c / 2 * e.sz:=by rw [<- Nat.add_mul];congr 1;omega
     omega
    ·rw [z2,z0,Nat.zero_mul];omega
   ·rcases hc with⟨z0,z⟩ | ⟨z0,z1,z2⟩
    ·rw [z0];exact q6.piece hl hk
    ·have he:(xs.take k).drop l= []:=by apply List.eq_nil_of_length_eq_zero;rw [hlen];omega
     rw [he];exact Jd.nil (by omega)
 ·have hmx:=s.max;refine⟨by rw [hlen];omega,?_,.inr (.inr ⟨i,o',rfl⟩),?_⟩
  ·have:=s.cap;rw [hlen];rcases hc with⟨_,z⟩ | ⟨_,z1,z2⟩ <;> omega
  ·rcases s.mem with q | ⟨i',o2,cs,own,z,q1,q2,q3,q4⟩
   ·left;subst q;simp
   ·cases q1;by_cases hz:k - l=0
    ·left;apply List.eq_nil_of_length_eq_zero;rw [hlen];exact hz
    ·right;refine⟨i,o',cs,own,z,rfl,q2,q3,?_⟩;rcases hc with⟨z0,z⟩ | ⟨z0,z1,z2⟩
     ·rw [z0];exact q4.piece hl hk
     ·have:=s.cap;omega
theorem Zid {α:Type} {e:Ux α} {a:Option Addr} {xs:List α} {l k:Nat} (hx:xs= []):Zpg e a 0 xs a 0 ((xs.take k).drop l):=by
 subst hx;have:(([]:List α).take k).drop l= []:=by simp
 rw [this];exact⟨fun s=>s,fun s=>s,fun i f=>f⟩
theorem ZD9 {α:Type} {e:Ux α} {t el:TypeId} {x:Operand} {lo hi:Option Operand} {a:Option Addr} {nn c:Nat} {xs zs:List α} {a1 a2:Int} (so:Qq e wm wm h a c xs) (hn:nn=xs.length) (hu:X.P.underlying t=some (.slice el)) (hs:Xo X.P el=some e.sz) (hx:Xf fr x=some (.slice a nn c))
 (hlo:evo (Xf fr) lo=some none/\a1=0\/∃ k,evo (Xf fr) lo=some (some (.int k a1))) (hhi:evo (Xf fr) hi=some none/\a2=xs.length\/∃ k,evo (Xf fr) hi=some (some (.int k a2))) (hz:slL xs a1 a2=some zs):
 ∃ a' c',Qw X h (Xf fr) ⟨some d,.slice t x lo hi none,ty,p,af,g⟩=some (.val (.slice a' zs.length c'),.none)/\Zpg e a c xs a' c' zs:=by
 obtain⟨l,k,rfl,rfl,hlk,hkx,rfl⟩:=Zat hz;subst hn;have hlen:((xs.take k).drop l).length=k - l:=by rw [List.length_drop,List.length_take];omega
 obtain⟨vlo,el1,el2⟩:∃ vlo,evo (Xf fr) lo=some vlo/\obN vlo 0=some l:=by
  rcases hlo with⟨z,z2⟩ | ⟨kk,z⟩
  ·exact⟨none,z,by have:l=0:=by omega
                   subst this;rfl⟩
  ·exact⟨_,z,rfl⟩
 obtain⟨vhi,eh1,eh2⟩:∃ vhi,evo (Xf fr) hi=some vhi/\obN vhi xs.length=some k:=by
  rcases hhi with⟨z,z2⟩ | ⟨kk,z⟩
  ·exact⟨none,z,by have:k=xs.length:=by omega
                   subst this;rfl⟩
  ·exact⟨_,z,rfl⟩
 have key:∀ v,aslice X.P h t (.slice a xs.length c) vlo vhi none=some v ->Qw X h (Xf fr) ⟨some d,.slice t x lo hi none,ty,p,af,g⟩=some (.val v,.none):=fun v hv=>by
  show(match Xf fr x,evo (Xf fr) lo,evo (Xf fr) hi,evo (Xf fr) none with
   | some x,some lo,some hi,some mx=>bif plain x && not (Zk5 x) then(match lo,hi,mx with
      | lo,hi,mx=>bif QM (lo.toList ++ hi.toList ++ mx.toList) then pN (ZaH X.P (Instr.sliceAt t x lo hi mx)) else none)
     else vN (aslice X.P h t x lo hi mx)
   | _,_,_,_=>none)=_
  rw [hx,el1,eh1];show(bif plain (.slice a xs.length c) && not (Zk5 (.slice a xs.length c)) then _ else vN (aslice X.P h t (.slice a xs.length c) vlo vhi none))=_;have:Zk5 (.slice a xs.length c)=true:=rfl;rw [this,Bool.not_true,Bool.and_false,Cq0,hv];rfl
 rcases so.mem with⟨rfl,rfl,rfl⟩ | ⟨i,o,cs,rfl,q2,q3,q4,q5,q6⟩
 ·have hk0:k=0:=by simpa using hkx
  have hl0:l=0:=by omega
  subst hk0 hl0;refine⟨none,0,key _ ?_,Zid rfl⟩;have Z3s:obN vhi 0=some 0:=eh2
  have:aslice X.P h t (.slice none 0 0) vlo vhi none=some (.slice none 0 0):=by
   unfold aslice;simp only [hu,hs,el2,Z3s]
  exact this
 ·have hmain:∀ v,(bif Nat.ble l k && Nat.ble k (c / 2) then
   bif Nat.beq (c % 2) 0 then some (Value.slice (some ⟨i,bif Nat.beq (c / 2) l then o else o + l * e.sz,none⟩) (k - l) (2 * (c / 2 - l)))
   else bif Nat.beq l 0 then some (.slice (some ⟨i,o,none⟩) k c)
   else match h.at i with
    | .row _ true s=>bif Nat.beq s e.sz && Nat.ble 1 e.sz then some (.slice (some ⟨i,o + l * e.sz,none⟩) (k - l) (2 * (c / 2 - l) + 1)) else none
    | _=>none
   else none)=some v ->aslice X.P h t (.slice (some ⟨i,o,none⟩) xs.length c) vlo vhi none=some v:=fun v hv=>by
   unfold aslice;simp only [hu,hs,el2,eh2];exact hv
  have b1:(Nat.ble l k && Nat.ble k (c / 2))=true:=by rw [Nm0 hlk,Nm0 (Nat.le_trans hkx q4)];rfl
  rw [b1] at hmain;simp only [Cq1] at hmain;cases hev:Nat.beq (c % 2) 0 with
  | true=>
    rw [hev] at hmain;simp only [Cq1] at hmain;refine⟨_,_,key _ (by rw [hlen];exact hmain _ rfl),Zi0 hlk hkx ?_⟩;cases hcl:Nat.beq (c / 2) l with
    | true=>right;have:=Nb0 hcl;exact⟨rfl,this,by omega⟩
    | false=>left;exact⟨rfl,by omega⟩
  | false=>
    rw [hev] at hmain;simp only [Cq0] at hmain;cases hl0:Nat.beq l 0 with
    | true=>
      have:=Nb0 hl0;subst this;rw [hl0] at hmain;simp only [Cq1] at hmain;exact⟨_,_,key _ (by rw [hlen];exact hmain _ rfl),Zi0 hlk hkx (.inl ⟨by omega,by omega⟩)⟩
    | false=>
      rw [hl0,q3] at hmain;simp only [Cq0] at hmain;have b2:(Nat.beq e.sz e.sz && Nat.ble 1 e.sz)=true:=by rw [Nat.beq_refl,Nm0 (show 1 <=e.sz from e.pos)];rfl
      rw [b2] at hmain;exact⟨_,_,key _ (by rw [hlen];exact hmain _ rfl),Zi0 hlk hkx (.inl ⟨rfl,by omega⟩)⟩
theorem Sp.sub {α:Type} {e:Ux α} {a a':Option Addr} {nn c c':Nat} {xs zs:List α} (s:Sp wm T h0 G h) (pk:Pk G (ow wm e a nn c xs) Gr) (v:Zpg e a c xs a' c' zs):Sp wm T h0 (ow wm e a' zs.length c' zs::Gr) h:=
 Sp.say (Ga:= [ow wm e a nn c xs]) (Gb:= [ow wm e a' zs.length c' zs]) (s.perm pk.perm) (Ym.one ⟨rfl,v.own (s.get pk).2⟩) fun i ⟨A,m,f⟩=>by
   rw [List.mem_singleton.1 m] at f;exact⟨_,List.mem_singleton.2 rfl,v.base i f⟩
end
section
variable {X:Ctx} {n wm:Nat} {rd:Option Nat} {ops:Array Oper} {l:List Oper} {fr:Fr} {ds:List Deferred} {h h1 h2 h0:H} {ty:TypeId} {p:String} {af:Array Edge} {g:Option (Nat×Bool)} {T:Nat ->Prop} {G Gr Ga Gb:List (Ast wm)} {d m:Nat} {sf:ST}
section
variable {α:Type} {e:Ux α} {a a1:Option Addr} {nn c n1 c1:Nat} {ps:Nat ->Option Addr×Nat×Nat} {xs:List (List α)}
theorem Sp.QY {k:Int} {x:List α} (s:Sp wm T h0 G h) (pk:Pk G (Yb wm (Zx e) a nn c ps xs) Gr) (hk:ZF xs k=some x) (hp:ps k.toNat= (a1,n1,c1)):Sp wm T h0 (nsh wm (Zx e) a nn c ps xs k.toNat [.slice a1 n1 c1]::ow wm e a1 n1 c1 x::Gr) h:=by
 have:=s.take pk hk;rw [hp] at this;exact this
theorem Sp.Q0 {k:Int} {x0 y:List α} (s:Sp wm T h0 G h) (sel:Sel G [nsh wm (Zx e) a nn c ps xs k.toNat [.slice a1 n1 c1],ow wm e a1 n1 c1 y] Gr) (hk:ZF xs k=some x0):∃ ps':Nat ->Option Addr×Nat×Nat,ps' k.toNat= (a1,n1,c1)/\Sp wm T h0 (Yb wm (Zx e) a nn c ps' (ZE xs k y)::Gr) h:=
 ⟨_,upd_same ps k.toNat (a1,n1,c1),Sp.fill (e:=Zx e) (a1,n1,c1) y s hk sel rfl⟩
theorem Sp.inS {k:Int} {x:List α} (s:Sp wm T h0 G h) (pk:Pk G (Yb wm (Zx e) a nn c ps xs) Gr) (hk:ZF xs k=some x) (hp:ps k.toNat= (a1,n1,c1)):n1=x.length/\Src e wm h a1 c1 x/\Sl e h.size h a1 c1 x:=by
 have:= (s.inN pk hk hp).get (A:=ow wm e a1 n1 c1 x) .z;exact⟨this.1,this.2.src,this.2.src.sl s.hw⟩
theorem Sp.Kg {k:Int} {x:List α} (s:Sp wm T h0 G h) (pk:Pk G (Yb wm (Zx e) a nn c ps xs) Gr) (hk:ZF xs k=some x):∃ b o a1 n1 c1,ps k.toNat= (a1,n1,c1)/\a=some ⟨b,o,none⟩/\At h b (o + k.toNat * 1) [.slice a1 n1 c1]:=by
 obtain⟨b,o,⟨a1,n1,c1⟩,h1,h2,h3⟩:=s.atN pk hk;exact⟨b,o,a1,n1,c1,h1,h2,h3⟩
theorem ZlD {t el:TypeId} {pvs:List (Nat×Value)} {z:Value} {zs:List Value} {ps:Array (Nat×Operand)} {x:List α} (hS:Sp wm T h0 G h) (pk:Pk G (ow wm e a1 n1 c1 x) Gr)
 (hu:X.P.underlying t=some (.slice el)) (hs:Xo X.P el=some 1) (hz:X0 X.P el=some z) (hzs:z.cells.toList=zs) (hzl:zs.length=1) (hp:evp (Xf fr) ps.toList=some pvs)
 (ho:ZeI (fun i=>some (i * 1,1)) (UI zs 1).length pvs=true) (hv:ZjJ (fun i=>i * 1) (UI zs 1) pvs= [.slice a1 n1 c1]):
 HN X wm ⟨some d,.buildSlice t 1 ps,ty,p,af,g⟩ fr h (fun v h'=>∃ b,h.size=b/\v= .slice (some ⟨b,0,none⟩) 1 2/\Sp wm T h0 (Yb wm (Zx e) (some ⟨b,0,none⟩) 1 2 (fun _=>(a1,n1,c1)) [x]::Gr) h'):=
 ZQB (e:=Zx e) (a1,n1,c1) x hS (.c pk .n) hu hs hz hzs hzl rfl hp ho hv
theorem Xu {ev:Operand ->Option Value} {x:Operand} {v:Value} (hx:ev x=some v):evo ev (some x)=some (some v):=by
 show(match ev x with | some v=>some (some v) | none=>none)=_;rw [hx]
end
section
variable {κ ν:Type} [DecidableEq κ] {kt vt:TypeId} {kv:κ ->Value} {vv:ν ->Value} {i:Nat} {ll:List (κ×ν)} {Q:Fr ->H ->Prop}
end
theorem Zro {f:FuncId}:Xf fr (.func f)=some (.func (.func f) #[] #[]):=Zr5 fr f
end
section
variable {X:Ctx} {h:H} {ev:Operand ->Option Value} {d:Option Tmp} {ty:TypeId} {p:String} {af:Array Edge} {g:Option (Nat×Bool)} {P:Program}
theorem ZmJ {op:BinOp} {t:TypeId} {x y:Operand} {k:IntKind} {a b c:Int} (hb:binOp op t (.int k a) (.int k b)=pure (.int k c)) (hn:op ≠ .eql/\op ≠ .neq):J2 P op t x y (.int k a) (.int k b)=some (.val (.int k c),.none):=by
 have hp:(plain (.int k a) && plain (.int k b))=true:=rfl;unfold J2;rw [hp,Cq1]
 have hg:(do eqGuard op t x y (.int k a) (.int k b);binOp op t (.int k a) (.int k b):Sem Value)=pure (.int k c):=by
  rw [hb];cases op <;> first | rfl | exact absurd rfl hn.1 | exact absurd rfl hn.2
 rw [hg];rfl
theorem ZmI {t:TypeId} {x y:Operand} {a b c:Int} (hc:ZsA a b=some c):J2 P .quo t x y (.int .i64 a) (.int .i64 b)=some (.val (.int .i64 c),.none):=by
 obtain⟨h1,rfl⟩:=Zws hc;exact ZmJ (by simp [binOp,Op.intDiv,h1,Yd]) ⟨by simp,by simp⟩
theorem Zd6 {t:TypeId} {x y:Operand} {k:IntKind} {a b c:Int} (hc:Zja a b=some c):J2 P .rem t x y (.int k a) (.int k b)=some (.val (.int k c),.none):=by
 obtain⟨h1,rfl⟩:=Zwq hc;exact ZmJ (by simp [binOp,Op.intDiv,h1]) ⟨by simp,by simp⟩
theorem ZEc {s t:TypeId} {x:Operand} {k k':IntKind} {a:Int} {us:TypeDesc} (hs:X.P.underlying s=some us) (ht:X.P.underlying t=some (.int k')) (hx:ev x=some (.int k a)):Qw X h ev ⟨d,.convert s t x,ty,p,af,g⟩=some (.val (.int k' (k'.wrap a)),.none):=by
 have:Qw X h ev ⟨d,.convert s t x,ty,p,af,g⟩= (match ev x with
  | some a=>bif plain a then pN (ZaH X.P (convert s t a)) else none
  | none=>none):=rfl
 rw [this,hx];have hpl:plain (.int k a)=true:=rfl;dsimp only;rw [hpl,Cq1]
 have hr:Yt X.P (convert s t (.int k a))=some (.ok (.int k' (k'.wrap a))):=by
  unfold convert;rw [prb (Qx hs),prb (Qx ht)]
  rfl
 unfold ZaH;rw [hr];rfl
theorem Zo1 {x y:Operand} {ts:Array TypeId} {k:IntKind} {a b:Int} (hx:ev x=some (.int k a)) (hy:ev y=some (.int k b)):Qw X h ev ⟨d,.call {callee:= .builtin .max,args:=#[x,y],argTypes:=ts},ty,p,af,g⟩=some (.val (.int k (if b > a then b else a)),.none):=by
 have hev:evs ev (#[x,y]:Array Operand).toList=some [.int k a,.int k b]:=Zb hx (Zb hy Zm);rw [Uo,hev];show(bif QM [.int k a,.int k b] then pN (ZaH X.P (Builtin.max_ ts ty #[.int k a,.int k b])) else none)=_;have:Builtin.max_ ts ty #[.int k a,.int k b]=pure (.int k (if b > a then b else a)):=rfl;rw [this];rfl
theorem ZOx {x y:Operand} {ts:Array TypeId} {k:IntKind} {a b:Int} (hx:ev x=some (.int k a)) (hy:ev y=some (.int k b)):Qw X h ev ⟨d,.call {callee:= .builtin .min,args:=#[x,y],argTypes:=ts},ty,p,af,g⟩=some (.val (.int k (if b < a then b else a)),.none):=by
 have hev:evs ev (#[x,y]:Array Operand).toList=some [.int k a,.int k b]:=Zb hx (Zb hy Zm);rw [Uo,hev];show(bif QM [.int k a,.int k b] then pN (ZaH X.P (Builtin.min_ ts ty #[.int k a,.int k b])) else none)=_;have:Builtin.min_ ts ty #[.int k a,.int k b]=pure (.int k (if b < a then b else a)):=rfl;rw [this];rfl
end
section
variable {X:Ctx} {n wm:Nat} {rd:Option Nat} {ops:Array Oper} {ol:List Oper} {fr:Fr} {ds:List Deferred} {h h0:H} {ty:TypeId} {p:String} {af:Array Edge} {g:Option (Nat×Bool)} {T:Nat ->Prop} {G Gr:List (Ast wm)} {d l df:Nat} {LO:Qj} {ps:Array Tmp} {Xm bd:Code}
def bsy:Qj ->Qj
 | .loop _ pd fr n ps Xm bd df=>.loop .busy pd fr n ps Xm bd df
 | A=>A
structure RgE (wm l:Nat) (fr:Fr) (n:Nat) (ps:Array Tmp) (Xm bd:Code) (df:Nat) (ds:List Deferred) (Q:XX ->Fs ->Prop) (h:H):Prop where
 at_:h.at l= .loop .ready none fr n ps Xm bd df
 low:wm <=l
 k:∀ h',Up wm (fun i=>i=l) h h' ->Q .normal ⟨fr,⟨.collected df,#[]⟩::ds,h',none⟩
theorem RgE.sp {Q:XX ->Fs ->Prop} (hLO:LO= .loop .ready none fr n ps Xm bd df) (hS:Sp wm T h0 G h) (pk:Pk G (ob wm l LO) Gr) (k:∀ h',Sp wm T h0 Gr h' ->Q .normal ⟨fr,⟨.collected df,#[]⟩::ds,h',none⟩):RgE wm l fr n ps Xm bd df ds Q h:=by
 obtain⟨h1,h2,h3⟩:=hS.get pk;refine⟨h1.trans hLO,h2,fun h' u=>k h' ?_⟩;exact Sp.step (Ga:= [ob wm l LO]) (Gb:= []) (hS.perm pk.perm) u (fun i e=>⟨_,List.mem_singleton.2 rfl,e⟩) Ym.nil fun i ⟨A,m,f⟩=>by simp at m
theorem Zne {A:Qj} (hA:A.own=true) (s:Sp wm T h0 Gr h):Sp wm T h0 (ob wm h.size A::Gr) (h.push A):=
 Sp.new s (Up.push wm h A) ⟨JP h A,s.hw,hA⟩ fun i e=>by have:i=h.size:=e;omega
theorem WC.Zm7 {Q:XX ->Fs ->Prop} {gg:Operand} {f:FuncId} {first cap:List Value} (hS:Sp wm T h0 G h) (hg:Xf fr gg=some (.func (.func f) first.toArray cap.toArray)) (hf:(X.fns.get f).isSome=true)
 (k:∀ h' l df LO,LO=Qj.loop .ready none fr n ps Xm bd df ->Sp wm T h0 (ob wm l LO::ob wm df .deferred::G) h' ->WR X f (first ++ ([Value.func (.yield l) #[] #[]] ++ cap)).toArray wm h' (fun _ h2=>RgE wm l fr n ps Xm bd df ds Q h2)):
 WC X n wm none (.rangeFunc gg ps Xm bd) ⟨fr,ds,h,none⟩ Q:=by
 have s1:Sp wm T h0 (ob wm h.size .deferred::G) (h.push .deferred):=Zne rfl hS
 have s2:Sp wm T h0 (ob wm (h.size + 1) (.loop .ready none fr n ps Xm bd h.size)::ob wm h.size .deferred::G) ((h.push .deferred).push (.loop .ready none fr n ps Xm bd h.size)):=by
  have:=Zne (A:= .loop .ready none fr n ps Xm bd h.size) rfl s1
  rwa [H.size_push] at this
 obtain⟨fn,hf⟩:=Option.isSome_iff_exists.1 hf;obtain⟨e,h3,⟨v,rfl,hr⟩,hj⟩:=k _ _ _ _ rfl s2;have hat:=hr.at_;refine⟨.normal,_,hr.k (h3.put (h.size + 1) (.loop .exhausted none fr n ps Xm bd h.size)) (Up.put hr.low (by rw [hat];rfl)),?_⟩;refine Qz.2 (Kk (C:=cfg X fun _=>false) (ih:=ZaY (.call f _ wm _) (.fin (.ret v) h3)) (U7 hj) ?_);show Jw (cfg X fun _=>false) _ gg n wm none (h.size + 1) ⟨fr,⟨.collected h.size,#[]⟩::ds,(h.push .deferred).push (.loop .ready none fr n ps Xm bd h.size),none⟩=_;unfold Jw;dsimp only;rw [hg]
 have hac:KY (cfg X fun _=>false).X ((h.push .deferred).push (.loop .ready none fr n ps Xm bd h.size)) (.func (.func f) first.toArray cap.toArray) [Value.func (.yield (h.size + 1)) #[] #[]]=some (.enter f (first ++ ([Value.func (.yield (h.size + 1)) #[] #[]] ++ cap)).toArray,.none):=by
  unfold KY;have:(cfg X fun _=>false).X.fns.get f=some fn:=hf;dsimp only;rw [this];simp only [List.append_assoc]
 dsimp only;rw [hac];dsimp only;unfold WB;rw [U8];dsimp only;rw [hat]
 rfl
theorem WR.ZeD {f:FuncId} {args:Array Value} {K:Value ->H ->Prop} {α β:Type} {r:β} (I:α ->Value ->H ->Prop) (j:α ->Option β) (k:∀ x v h',j x=some r ->I x v h' ->K v h') (hc:WR X f args wm h (fun v h'=>∃ x,j x=some r/\I x v h')):WR X f args wm h K:=
 hc.mono fun _ h' ⟨v,e,x,h1,h2⟩=>⟨v,e,k x v h' h1 h2⟩
theorem AsK.sp {QJ:Fr} {R:H ->Prop} (hLO:LO= .loop .ready none fr n ps Xm bd df) (hS:Sp wm T h0 G h) (pk:Pk G (ob wm l LO) Gr) (k:∀ h1,Sp wm T h0 (ob wm l (bsy LO)::Gr) h1 ->WC X n wm (some l) bd ⟨QJ,ds,h1,none⟩ (BdK n wm l fr ps Xm bd df R)):AsK X n wm wm l fr ps Xm bd df R .normal ⟨QJ,ds,h,none⟩:=by
 obtain⟨h1,h2,h3⟩:=hS.get pk;refine AsK.mk' (h1.trans hLO) fun h' u e=>k h' ?_
 exact hS.one pk (u h2) (fun _ q=>q) ⟨by rw [e,hLO];rfl,h2,by rw [hLO];rfl⟩ fun _ q=>.inl q
theorem BdK.sp {QJ:Fr} {R:H ->Prop} (hLO:LO= .loop .ready none fr n ps Xm bd df) (hS:Sp wm T h0 G h) (pk:Pk G (ob wm l (bsy LO)) Gr) (k:∀ h1,Sp wm T h0 (ob wm l LO::Gr) h1 ->R h1):BdK n wm l fr ps Xm bd df R .normal ⟨QJ,ds,h,none⟩:=by
 obtain⟨h1,h2,h3⟩:=hS.get pk;refine BdK.mk' (h1.trans (by rw [hLO];rfl)) fun h' u e=>k h' ?_
 exact hS.one pk (u h2) (fun _ q=>q) ⟨by rw [e,hLO],h2,by rw [hLO];rfl⟩ fun _ q=>.inl q
theorem WO.ZE9 {Q:XX ->Fs ->Prop} {fo:Operand} {xs:Array Operand} {ts:Array TypeId} {vs:List Value} {n2:Nat} {QJ fr1:Fr} {as2 bd2:Code} (hg:YO ops ⟨some d,.call {callee:= .value fo,args:=xs,argTypes:=ts},ty,p,af,g⟩ fr) (hd:Nat.blt d n=true) (hf:Xf fr fo=some (.func (.yield l) #[] #[])) (hx:evs (Xf fr) xs.toList=some vs)
 (hS:Sp wm T h0 G h) (pk:Pk G (ob wm l LO) Gr) (hLO:LO= .loop .ready none QJ n2 ps as2 bd2 df) (hl:Nat.beq vs.length ps.toList.length=true) (hs:Jm (ps.toList.zip vs) n2 QJ=some fr1)
 (k:WC X n2 wm (some l) as2 ⟨fr1,[],h,none⟩ (AsK X n2 wm wm l QJ ps as2 bd2 df (fun h'=>WO X n wm rd ops ol ⟨Tr.set fr d (.bool true),ds,h',none⟩ Q))):
 WO X n wm rd ops (⟨some d,.call {callee:= .value fo,args:=xs,argTypes:=ts},ty,p,af,g⟩::ol) ⟨fr,ds,h,none⟩ Q:=by
 obtain⟨h1,h2,h3⟩:=hS.get pk;have hat:=h1.trans hLO;refine WO.yld hg hd hf hx hat (Nb0 hl) (Zun.mk' (lo:=wm) hat h2 hl hs k) fun b h' ⟨e,hk⟩=>?_
 rw [e];exact hk
structure JnK {α β:Type} (I:α ->Fs ->Prop) (j:α ->Option β) (r:β) (e:XX) (s:Fs):Prop where
 out:e= .normal/\∃ x,j x=some r/\I x s
theorem JnK.Xx {α β:Type} {I:α ->Fs ->Prop} {j:α ->Option β} {r:β} {s:Fs} (x:α) (h:j x=some r) (i:I x s):JnK I j r .normal s:= ⟨⟨rfl,x,h,i⟩⟩
theorem WC.jn {Q:XX ->Fs ->Prop} {c:Code} {s:Fs} {α β:Type} {r:β} (I:α ->Fs ->Prop) (j:α ->Option β) (k:∀ x s',j x=some r ->I x s' ->Q .normal s') (hc:WC X n wm rd c s (JnK I j r)):WC X n wm rd c s Q:=
 hc.mono fun _ s' ⟨⟨q,x,h1,h2⟩⟩=>by rw [q];exact k x s' h1 h2
theorem JF.ZrE {fn:Func} {R:Zad ->H ->Prop} (hS:Sp wm T h0 G h) (pk:Pk G (ob wm df .deferred) Gr) (k:∀ h',Sp wm T h0 Gr h' ->JF X fn wm R .ret ⟨fr,ds,h',none⟩):JF X fn wm R .ret ⟨fr,⟨.collected df,#[]⟩::ds,h,none⟩:=by
 obtain⟨h1,h2,h3⟩:=hS.get pk;refine JF.col wm h2 h1 h2 fun h' u=>k h' ?_
 exact Sp.step (Ga:= [ob wm df .deferred]) (Gb:= []) (hS.perm pk.perm) u (fun i e=>⟨_,List.mem_singleton.2 rfl,e⟩) Ym.nil fun i ⟨A,m,f⟩=>by simp at m
end
section
variable {X:Ctx} {n wm:Nat} {rd:Option Nat} {ops:Array Oper} {l:List Oper} {fr:Fr} {ds:List Deferred} {h h1 h2 h0:H} {ty:TypeId} {p:String} {af:Array Edge} {g:Option (Nat×Bool)} {m:Nat} {T:Nat ->Prop} {G Gr Ga Gb:List (Ast wm)} {d:Nat} {sf:ST}
def HW (X:Ctx) (wm:Nat) (o:Oper) (fr:Fr) (h:H) (K:H ->Prop):Prop:=∃ v E h1,Qw X h (Xf fr) o=some (.val v,E)/\E.apply wm h=some h1/\K h1
theorem WO.hw {Q:XX ->Fs ->Prop} {op:Op} {K:H ->Prop} (hg:YO ops ⟨none,op,ty,p,af,g⟩ fr) (s:HW X wm ⟨none,op,ty,p,af,g⟩ fr h K) (k:∀ h',K h' ->WO X n wm rd ops l ⟨fr,ds,h',none⟩ Q):
 WO X n wm rd ops (⟨none,op,ty,p,af,g⟩::l) ⟨fr,ds,h,none⟩ Q:=let⟨_,_,h1,ha,hE,hk⟩:=s;WO.val hg rfl ha hE (k h1 hk)
theorem JJ {t:TypeId} {x:Operand} {lo hi mx:Option Operand} {a:Option Addr} {nn c:Nat} {vlo vhi vmx:Option Value} {v:Value} (hx:Xf fr x=some (.slice a nn c)) (el1:evo (Xf fr) lo=some vlo) (eh1:evo (Xf fr) hi=some vhi) (em1:evo (Xf fr) mx=some vmx) (hv:aslice X.P h t (.slice a nn c) vlo vhi vmx=some v):
 Qw X h (Xf fr) ⟨some d,.slice t x lo hi mx,ty,p,af,g⟩=some (.val v,.none):=by
 show(match Xf fr x,evo (Xf fr) lo,evo (Xf fr) hi,evo (Xf fr) mx with
  | some x,some lo,some hi,some mx=>bif plain x && not (Zk5 x) then(match lo,hi,mx with
     | lo,hi,mx=>bif QM (lo.toList ++ hi.toList ++ mx.toList) then pN (ZaH X.P (Instr.sliceAt t x lo hi mx)) else none)
    else vN (aslice X.P h t x lo hi mx)
  | _,_,_,_=>none)=_
 rw [hx,el1,eh1,em1];show(bif plain (.slice a nn c) && not (Zk5 (.slice a nn c)) then _ else vN (aslice X.P h t (.slice a nn c) vlo vhi vmx))=_;have:Zk5 (.slice a nn c)=true:=rfl;rw [this,Bool.not_true,Bool.and_false,Cq0,hv];rfl
section
variable {α:Type} {e:Ux α} {t el:TypeId} {x:Operand} {a:Option Addr} {nn c:Nat} {xs zs ws us:List α} {a1 a2 a3:Int}
theorem ZHG {lo hi mx:Operand} (so:Qq e wm wm h a c xs) (hn:nn=xs.length) (hu:X.P.underlying t=some (.slice el)) (hs:Xo X.P el=some e.sz) (hx:Xf fr x=some (.slice a nn c))
 (hlo:Xf fr lo=some (.int .i64 a1)) (hhi:Xf fr hi=some (.int .i64 a2)) (hmx:Xf fr mx=some (.int .i64 (xs.length:Nat))) (hz:slL xs a1 a2=some zs):
 ∃ v,Qw X h (Xf fr) ⟨some d,.slice t x (some lo) (some hi) (some mx),ty,p,af,g⟩=some (.val v,.none):=by
 obtain⟨l,k,rfl,rfl,hlk,hkx,rfl⟩:=Zat hz;subst hn;have e1:obN (some (.int .i64 (l:Int))) 0=some l:=rfl;have e2:∀ q,obN (some (.int .i64 (k:Int))) q=some k:=fun q=>rfl
 have e3:Zc8 (.int .i64 ((xs.length:Nat):Int))=some xs.length:=rfl;rcases so.mem with⟨rfl,rfl,rfl⟩ | ⟨i,o,cs,rfl,q2,q3,q4,q5,q6⟩
 ·have hk0:k=0:=by simpa using hkx
  have hl0:l=0:=by omega
  subst hk0 hl0;refine⟨.slice none 0 0,JJ hx (Xu hlo) (Xu hhi) (Xu hmx) ?_⟩
  have:aslice X.P h t (.slice none 0 0) (some (.int .i64 ((0:Nat):Int))) (some (.int .i64 ((0:Nat):Int))) (some (.int .i64 ((0:Nat):Int)))=some (.slice none 0 0):=by
   unfold aslice;simp only [hu,hs]
   rfl
  exact this
 ·refine⟨.slice (some ⟨i,bif Nat.beq xs.length l then o else o + l * e.sz,none⟩) (k - l) (2 * (xs.length - l)),JJ hx (Xu hlo) (Xu hhi) (Xu hmx) ?_⟩;unfold aslice;simp only [hu,hs,e1,e2,e3];rw [Nm0 hlk,Nm0 hkx,Nm0 q4]
  rfl
theorem ZHF {hi:Operand} (so:Qq e wm wm h a c xs) (hn:nn=xs.length) (hu:X.P.underlying t=some (.slice el)) (hs:Xo X.P el=some e.sz) (hx:Xf fr x=some (.slice a nn c))
 (hhi:Xf fr hi=some (.int .i64 a2)) (hz:slL xs 0 a2=some zs):
 ∃ a' c',a'=a/\c'=c/\Qw X h (Xf fr) ⟨some d,.slice t x none (some hi) none,ty,p,af,g⟩=some (.val (.slice a' zs.length c'),.none)/\Zpg e a c xs a' c' zs:=by
 obtain⟨l,k,hl0,rfl,hlk,hkx,rfl⟩:=Zat hz;have hl0:l=0:=by omega
 subst hl0 hn;have hlen:((xs.take k).drop 0).length=k:=by rw [List.drop_zero,List.length_take];omega
 have e2:∀ q,obN (some (.int .i64 (k:Int))) q=some k:=fun q=>rfl
 have e1:obN none 0=some 0:=rfl;refine⟨a,c,rfl,rfl,?_⟩;rcases so.mem with⟨rfl,rfl,rfl⟩ | ⟨i,o,cs,rfl,q2,q3,q4,q5,q6⟩
 ·have hk0:k=0:=by simpa using hkx
  subst hk0;refine⟨JJ hx rfl (Xu hhi) rfl ?_,Zid rfl⟩
  have:aslice X.P h t (.slice none 0 0) none (some (.int .i64 ((0:Nat):Int))) none=some (.slice none 0 0):=by
   unfold aslice;simp only [hu,hs]
   rfl
  exact this
 ·refine⟨JJ hx rfl (Xu hhi) rfl ?_,Zi0 hlk hkx (.inl ⟨by omega,by omega⟩)⟩;rw [hlen];unfold aslice;simp only [hu,hs,e1,e2];rw [Nm0 (Nat.zero_le k),Nm0 (Nat.le_trans hkx q4)];simp only [Bool.and_self,Cq1];cases hev:Nat.beq (c % 2) 0 with
  | true=>
    have:=Nb0 hev;have hc:2 * (c / 2 - 0)=c:=by omega
    simp only [Cq1,Nat.zero_mul,Nat.add_zero,Nat.sub_zero];cases Nat.beq (c / 2) 0 <;> simp only [Cq1,Cq0] <;> congr 2 <;> omega
  | false=>
    simp only [Cq0]
    rfl
structure Tl (e:Ux α) (a:Option Addr) (c k n3:Nat) (a3:Option Addr):Prop where
 out:n3=0\/∃ i o,a=some ⟨i,o,none⟩/\a3=some ⟨i,o + k * e.sz,none⟩/\k + n3 <=c / 2
theorem ZHE {lo hi:Operand} {mm:Nat} (so:Qq e wm wm h a c zs) (hu:X.P.underlying t=some (.slice el)) (hs:Xo X.P el=some e.sz) (hx:Xf fr x=some (.slice a zs.length c))
 (hlo:Xf fr lo=some (.int .i64 (zs.length:Nat))) (hhi:Xf fr hi=some (.int .i64 (mm:Nat))) (hm:zs.length <=mm) (hc:mm <=c / 2):
 ∃ a' c',Qw X h (Xf fr) ⟨some d,.slice t x (some lo) (some hi) none,ty,p,af,g⟩=some (.val (.slice a' (mm - zs.length) c'),.none)/\Tl e a c zs.length (mm - zs.length) a':=by
 have e1:obN (some (.int .i64 ((zs.length:Nat):Int))) 0=some zs.length:=rfl;have e2:∀ q,obN (some (.int .i64 (mm:Int))) q=some mm:=fun q=>rfl
 rcases so.mem with⟨rfl,rfl,rfl⟩ | ⟨i,o,cs,rfl,q2,q3,q4,q5,q6⟩
 ·have hk0:mm=0:=by omega
  subst hk0;refine⟨none,0,JJ hx (Xu hlo) (Xu hhi) rfl ?_,⟨.inl rfl⟩⟩
  have:aslice X.P h t (.slice none 0 0) (some (.int .i64 ((0:Nat):Int))) (some (.int .i64 ((0:Nat):Int))) none=some (.slice none 0 0):=by
   unfold aslice;simp only [hu,hs]
   rfl
  exact this
 ·have hmain:∀ v,(bif Nat.beq (c % 2) 0 then some (Value.slice (some ⟨i,bif Nat.beq (c / 2) zs.length then o else o + zs.length * e.sz,none⟩) (mm - zs.length) (2 * (c / 2 - zs.length)))
   else bif Nat.beq zs.length 0 then some (.slice (some ⟨i,o,none⟩) mm c)
   else some (.slice (some ⟨i,o + zs.length * e.sz,none⟩) (mm - zs.length) (2 * (c / 2 - zs.length) + 1)))=some v ->aslice X.P h t (.slice (some ⟨i,o,none⟩) zs.length c) (some (.int .i64 ((zs.length:Nat):Int))) (some (.int .i64 (mm:Int))) none=some v:=fun v hv=>by
   unfold aslice;simp only [hu,hs,e1,e2];rw [Nm0 hm,Nm0 hc,q3];have b2:(Nat.beq e.sz e.sz && Nat.ble 1 e.sz)=true:=by rw [Nat.beq_refl,Nm0 (show 1 <=e.sz from e.pos)];rfl
   simp only [b2,Bool.and_self,Cq1];exact hv
  cases hev:Nat.beq (c % 2) 0 with
  | true=>
    rw [hev] at hmain;refine⟨_,_,JJ hx (Xu hlo) (Xu hhi) rfl (hmain _ rfl),⟨?_⟩⟩;cases hcl:Nat.beq (c / 2) zs.length with
    | true=>have:=Nb0 hcl;left;omega
    | false=>right;exact⟨i,o,rfl,rfl,by omega⟩
  | false=>
    rw [hev] at hmain;cases hl0:Nat.beq zs.length 0 with
    | true=>
      have h00:=Nb0 hl0;rw [hl0] at hmain;refine⟨some ⟨i,o,none⟩,c,JJ hx (Xu hlo) (Xu hhi) rfl (hmain _ ?_),⟨.inr ⟨i,o,rfl,by rw [h00];simp,by omega⟩⟩⟩;rw [h00];rfl
    | false=>
      rw [hl0] at hmain;exact⟨_,_,JJ hx (Xu hlo) (Xu hhi) rfl (hmain _ rfl),⟨.inr ⟨i,o,rfl,rfl,by omega⟩⟩⟩
theorem Zyy (z:List Value) (k:Nat):(UI z k).length=k * z.length:=by unfold UI;simp
theorem ZQA {ts:Array TypeId} {rest:List TypeId} {n3 c3:Nat} {z:Value} {a3':Option Addr} (hS:Sp wm T h0 G h) (pk:Pk G (ow wm e a nn c zs) Gr) (tl:Tl e a c zs.length n3 a3') (hts:ts.toList=t::rest) (hu:X.P.underlying t=some (.slice el)) (hz:X0 X.P el=some z) (hzl:z.cells.toList.length=e.sz) (hx:Xf fr x=some (.slice a3' n3 c3)):
 HW X wm ⟨none,.call {callee:= .builtin .clear,args:=#[x],argTypes:=ts},ty,p,af,g⟩ fr h (fun h'=>Sp wm T h0 (ow wm e a nn c zs::Gr) h'):=by
 have key:∀ E,ZeX X.P h t (.slice a3' n3 c3)=some E ->Qw X h (Xf fr) ⟨none,.call {callee:= .builtin .clear,args:=#[x],argTypes:=ts},ty,p,af,g⟩=some (.val (.tuple #[]),E):=fun E hE=>by
  have hev:evs (Xf fr) (#[x]:Array Operand).toList=some [.slice a3' n3 c3]:=Zb hx Zm;rw [Uo,hev];show(match ts.toList with | t::_=>(match ZeX X.P h t (.slice a3' n3 c3) with | some E=>some (AN.val (.tuple #[]),E) | none=>none) | []=>none)=_;rw [hts];dsimp only;rw [hE]
 obtain⟨h1,so⟩:=hS.get pk;by_cases h0':n3=0
 ·refine⟨_,.none,h,key _ ?_,rfl,hS.perm pk.perm⟩;unfold ZeX;simp only [hu,h0',Nat.beq_refl,Cq1]
 ·rcases tl.out with q | ⟨i,o,rfl,rfl,hcap⟩
  ·exact absurd q h0'
  ·rcases so.mem with⟨q,_⟩ | ⟨i',o',cs,q,q2,q3,q4,q5,q6⟩
   ·cases q
   ·cases q;have hb:Nat.beq n3 0=false:=by rw [Bool.eq_false_iff];intro q;exact h0' (Nb0 q)
    have hfit:o + zs.length * e.sz + n3 * e.sz <=cs.length:=by
     have:(zs.length + n3) * e.sz <=c / 2 * e.sz:=Nat.mul_le_mul_right _ hcap;rw [Nat.add_mul] at this;omega
    have hzr:(UI z.cells.toList n3).length=n3 * e.sz:=by rw [Zyy,hzl]
    have hl2:o + zs.length * e.sz + (UI z.cells.toList n3).length <=cs.length:=by rw [hzr];exact hfit
    have hu':Up wm (fun j=>j=i) h (h.put i (.row (splice cs (o + zs.length * e.sz) (UI z.cells.toList n3)) true e.sz)):=Up.put q2 (by rw [q3];rfl);refine⟨_,.upd i (.row (splice cs (o + zs.length * e.sz) (UI z.cells.toList n3)) true e.sz),_,key _ ?_,?_,hS.one pk hu' (fun j q=>⟨o,by rw [q]⟩) ⟨h1,so.max,.inr ⟨i,o,_,rfl,q2,XG (QE q3 rfl) _,q4,by rw [UY _ _ _ hl2];exact q5,?_⟩⟩ fun j q=>.inl q⟩
    ·unfold ZeX;simp only [hu,hb,Cq0,hz,q3,hzl];rw [Nm0 hfit];rfl
    ·show(bif Nat.ble wm i && (h.at i).own then some (h.put i _) else none)=_;rw [q3,Nm0 q2];rfl
    ·refine⟨by rw [UY _ _ _ hl2];exact q6.len,fun k x hk=>?_⟩;obtain⟨q,g1,g2⟩:=q6.get k x hk;refine⟨q,?_,e.mono (hu'.fz (Nat.le_refl _)) g2⟩;have hkl:= (Li0 hk).1;have:(k + 1) * e.sz <=zs.length * e.sz:=Nat.mul_le_mul_right _ hkl;rw [Nat.succ_mul] at this;rw [Zi1 hl2 (.inl (by omega)),g1]
theorem ZHL {ts:Array TypeId} {x y:Operand} {JO:Nat} {b2:Option Addr} {c2:Nat} {ys:List α} (hi:Zeq X.P ts e.sz JO) (hx:Xf fr x=some (.slice a xs.length c)) (hy:Xf fr y=some (.slice b2 ys.length c2)) (so:Qq e wm wm h a c xs) (sr:Src e wm h b2 c2 ys) (hr:xs.length + ys.length <=c / 2):
 ∃ E,Qw X h (Xf fr) ⟨some d,.call {callee:= .builtin .append,args:=#[x,y],argTypes:=ts},ty,p,af,g⟩=some (.val (.slice a (xs ++ ys).length c),E):=by
 obtain⟨el,z,hi⟩:=hi;obtain⟨new,n1,n2,n3⟩:=sr.reads;have n4:=n3.one n2;have hev:evs (Xf fr) (#[x,y]:Array Operand).toList=some [.slice a xs.length c,.slice b2 ys.length c2]:=Zb hx (Zb hy Zm);have hls:JE (.slice b2 ys.length c2)=ys.length:=rfl
 have key:∀ (v:Value) (E:Eff),QT X.P h ts (.slice a xs.length c) (.slice b2 ys.length c2)=some (v,E) ->Qw X h (Xf fr) ⟨some d,.call {callee:= .builtin .append,args:=#[x,y],argTypes:=ts},ty,p,af,g⟩=some (.val v,E):=by
  intro v E hE;rw [Uo,hev];show vE (QT X.P h ts (.slice a xs.length c) (.slice b2 ys.length c2))=_;rw [hE];rfl
 have hle2:(xs ++ ys).length=xs.length + ys.length:=List.length_append;by_cases hy0:ys= []
 ·subst hy0;refine⟨.none,key _ _ ?_⟩;unfold QT;rw [hi];dsimp only;rw [n1];dsimp only;rw [hls,Nm0 hr,hle2];rfl
 ·have hyl:0 < ys.length:=List.length_pos_iff.2 hy0;rcases so.mem with⟨rfl,rfl,rfl⟩ | ⟨i,o,cs,rfl,hlo2,hrow,hc1,hc2,hel⟩
  ·exfalso;simp at hr;exact hy0 hr
  ·refine⟨.upd i (.row (splice cs (o + xs.length * e.sz) new) true e.sz),key _ _ ?_⟩
   have hfit:o + xs.length * e.sz + new.length <=cs.length:=by
    rw [n2];have:(xs.length + ys.length) * e.sz <=c / 2 * e.sz:=Nat.mul_le_mul_right _ hr;rw [Nat.add_mul] at this;omega
   unfold QT;rw [hi];dsimp only;rw [n1];dsimp only;rw [hls,Nm0 hr];have b1:Nat.beq ys.length 0=false:=by rw [Bool.eq_false_iff];intro q;have:=Nb0 q;omega
   rw [b1,hrow];simp only [Cq1,Cq0];rw [Nm0 hfit,n4,hle2];rfl
theorem ZQD {ts:Array TypeId} {x y:Operand} {JO:Nat} {b2:Option Addr} {n2 c2:Nat} {ys:List α} (hS:Sp wm T h0 G h) (pk:Pk G (ow wm e a nn c xs) Gr) (hi:Zeq X.P ts e.sz JO) (hx:Xf fr x=some (.slice a nn c)) (hy:Xf fr y=some (.slice b2 n2 c2)) (sr:Src e wm h b2 c2 ys) (hn:n2=ys.length) (ha:app JO xs ys=some zs) (hr:zs.length <=c / 2):
 HV X wm ⟨some d,.call {callee:= .builtin .append,args:=#[x,y],argTypes:=ts},ty,p,af,g⟩ fr h (X8 a) (fun v h'=>v= .slice a zs.length c/\Sp wm T h0 (ow wm e a zs.length c zs::Gr) h'):=by
 obtain⟨v,E,h1,e1,e2,e3,e4,a',c',rfl,hS'⟩:=Uc (d:=d) (ty:=ty) (p:=p) (af:=af) (g:=g) hS pk hi hx hy sr hn ha;obtain⟨h1',so⟩:=hS.get pk;obtain⟨rfl,_⟩:=Zgc ha;subst h1' hn;obtain⟨E',e5⟩:=ZHL (d:=d) (ty:=ty) (p:=p) (af:=af) (g:=g) hi hx hy so sr (by rw [List.length_append] at hr;exact hr);rw [e5] at e1;cases e1;exact⟨_,_,h1,e5,e2,e3,e4,rfl,hS'⟩
theorem ZvU {b:Nat} {i j:Int} {u v:List α} (h3:slL xs i j=some ws) (h1:slL xs 0 i=some u) (h2:slL xs j xs.length=some v) (ha:app b u v=some zs):zs.length <=xs.length:=by
 obtain⟨l,k,rfl,rfl,hlk,hkx,rfl⟩:=Zat h3;obtain⟨l1,k1,hl1,hk1,_,_,rfl⟩:=Zat h1;obtain⟨l2,k2,hl2,hk2,_,_,rfl⟩:=Zat h2;obtain⟨rfl,_⟩:=Zgc ha;simp only [List.length_append,List.length_drop,List.length_take];omega
end
section
variable {κ ν:Type} [DecidableEq κ] {kt vt:TypeId} {kv:κ ->Value} {vv:ν ->Value} {i:Nat} {ll:List (κ×ν)}
end
end
section
variable {X:Ctx} {n wm:Nat} {rd:Option Nat} {ops:Array Oper} {l:List Oper} {fr:Fr} {ds:List Deferred} {h h1 h2 h0:H} {ty:TypeId} {p:String} {af:Array Edge} {g:Option (Nat×Bool)} {m:Nat} {T:Nat ->Prop} {G Gr Ga Gb:List (Ast wm)} {d:Nat} {sf:ST}
def HE (X:Ctx) (o:Oper) (fr:Fr) (h:H) (K:Value ->Prop):Prop:=∃ v,Qw X h (Xf fr) o=some (.val v,.none)/\K v
theorem WO.he {Q:XX ->Fs ->Prop} {op:Op} {K:Value ->Prop} (hg:YO ops ⟨some d,op,ty,p,af,g⟩ fr) (hd:Nat.blt d n=true) (s:HE X ⟨some d,op,ty,p,af,g⟩ fr h K) (k:∀ v,K v ->WO X n wm rd ops l ⟨Tr.set fr d v,ds,h,none⟩ Q):
 WO X n wm rd ops (⟨some d,op,ty,p,af,g⟩::l) ⟨fr,ds,h,none⟩ Q:=let⟨v,ha,hk⟩:=s;WO.w hg hd ha (k v hk)
theorem WX.he {Q:Fr ->H ->Prop} {op:Op} {K:Value ->Prop} (hg:YO ops ⟨some d,op,ty,p,af,g⟩ fr) (hd:Nat.blt d n=true) (s:HE X ⟨some d,op,ty,p,af,g⟩ fr h K) (k:∀ v,K v ->WX X n wm rd ops sf (m + 1) h l (Tr.set fr d v) Q) (hM:okM ops sf m ⟨some d,op,ty,p,af,g⟩=true):
 WX X n wm rd ops sf m h (⟨some d,op,ty,p,af,g⟩::l) fr Q:=let⟨v,ha,hk⟩:=s;WX.w hg hd ha (k v hk) hM
section
variable {α:Type} {e:Ux α} {t el:TypeId} {x:Operand} {a:Option Addr} {nn c:Nat} {xs zs ws us:List α} {a1 a2 a3:Int}
theorem Zfc {lo hi:Option Operand} (so:Qq e wm wm h a c xs) (hn:nn=xs.length) (hu:X.P.underlying t=some (.slice el)) (hs:Xo X.P el=some e.sz) (hx:Xf fr x=some (.slice a nn c))
 (hlo:evo (Xf fr) lo=some none/\a1=0\/∃ k,evo (Xf fr) lo=some (some (.int k a1))) (hhi:evo (Xf fr) hi=some none/\a2=xs.length\/∃ k,evo (Xf fr) hi=some (some (.int k a2))) (hz:slL xs a1 a2=some zs):
 HE X ⟨some d,.slice t x lo hi none,ty,p,af,g⟩ fr h (fun v=>∃ a' c',v= .slice a' zs.length c'/\Zpg e a c xs a' c' zs):=
 let⟨a',c',h1,h2⟩:=ZD9 (d:=d) (ty:=ty) (p:=p) (af:=af) (g:=g) so hn hu hs hx hlo hhi hz;⟨_,h1,a',c',rfl,h2⟩
theorem ZKj {lo hi mx:Operand} (so:Qq e wm wm h a c xs) (hn:nn=xs.length) (hu:X.P.underlying t=some (.slice el)) (hs:Xo X.P el=some e.sz) (hx:Xf fr x=some (.slice a nn c))
 (hlo:Xf fr lo=some (.int .i64 a1)) (hhi:Xf fr hi=some (.int .i64 a2)) (hmx:Xf fr mx=some (.int .i64 (xs.length:Nat))) (hz:slL xs a1 a2=some zs):
 HE X ⟨some d,.slice t x (some lo) (some hi) (some mx),ty,p,af,g⟩ fr h (fun _=>True):=let⟨v,hv⟩:=ZHG (d:=d) (ty:=ty) (p:=p) (af:=af) (g:=g) so hn hu hs hx hlo hhi hmx hz;⟨v,hv,trivial⟩
theorem ZKh {hi:Operand} (so:Qq e wm wm h a c xs) (hn:nn=xs.length) (hu:X.P.underlying t=some (.slice el)) (hs:Xo X.P el=some e.sz) (hx:Xf fr x=some (.slice a nn c))
 (hhi:Xf fr hi=some (.int .i64 a2)) (hz:slL xs 0 a2=some zs):
 HE X ⟨some d,.slice t x none (some hi) none,ty,p,af,g⟩ fr h (fun v=>∃ a' c',a'=a/\c'=c/\v= .slice a' zs.length c'/\Zpg e a c xs a' c' zs):=
 let⟨a',c',h1,h2,h3,h4⟩:=ZHF (d:=d) (ty:=ty) (p:=p) (af:=af) (g:=g) so hn hu hs hx hhi hz;⟨_,h3,a',c',h1,h2,rfl,h4⟩
theorem ZKg {lo hi:Operand} {mm:Nat} (so:Qq e wm wm h a c zs) (hu:X.P.underlying t=some (.slice el)) (hs:Xo X.P el=some e.sz) (hx:Xf fr x=some (.slice a zs.length c))
 (hlo:Xf fr lo=some (.int .i64 (zs.length:Nat))) (hhi:Xf fr hi=some (.int .i64 (mm:Nat))) (hm:zs.length <=mm) (hc:mm <=c / 2):
 HE X ⟨some d,.slice t x (some lo) (some hi) none,ty,p,af,g⟩ fr h (fun v=>∃ a' c',v= .slice a' (mm - zs.length) c'/\Tl e a c zs.length (mm - zs.length) a'):=
 let⟨a',c',h1,h2⟩:=ZHE (d:=d) (ty:=ty) (p:=p) (af:=af) (g:=g) so hu hs hx hlo hhi hm hc;⟨_,h1,a',c',rfl,h2⟩
end
end
section
variable {X:Ctx} {n wm wm':Nat} {fr:Fr} {h:H} {ty:TypeId} {p:String} {af:Array Edge} {g:Option (Nat×Bool)} {d:Nat}
section
variable {α:Type} {e:Ux α} {t el:TypeId} {x:Operand} {a:Option Addr} {nn c:Nat} {xs zs:List α} {a2:Int}
end
end
section
variable {X:Ctx} {n wm:Nat} {rd:Option Nat} {ops:Array Oper} {l:List Oper} {fr:Fr} {ds:List Deferred} {h h1 h2 h0:H} {ty:TypeId} {p:String} {af:Array Edge} {g:Option (Nat×Bool)} {T:Nat ->Prop} {G Gr Ga Gb:List (Ast wm)} {d:Nat}
def pv (t:TypeId) (k:Int):Value:= .iface t (.int .i64 k)
section
variable {β:Type} {t:TypeId} {K:β ->Value ->List (Ast wm) ->Prop} {f:FuncId} {args:Array Value}
end
section
variable {fn:Func} {R:Zad ->H ->Prop} {s:Fs} {v:Value} {pm:PM}
end
end
section
variable {X:Ctx} {n wm:Nat} {rd:Option Nat} {ops:Array Oper} {l:List Oper} {rest:Code}
section
variable {κ ν:Type} {kv:κ ->Value} {vv:ν ->Value} {ll:List (κ×ν)} {bs:List Nat}
end
section
variable {wm:Nat} {G Gr:List (Ast wm)} {h h0:H} {T0:Nat ->Prop} {fr:Fr} {ds:List Deferred} {ty:TypeId} {p:String} {af:Array Edge} {g:Option (Nat×Bool)} {κ ν:Type} {kv:κ ->Value} {vv:ν ->Value} {ll:List (κ×ν)} {d:Nat}
end
end
section
variable {X:Ctx} {n wm:Nat} {rd:Option Nat} {ops:Array Oper} {l:List Oper} {fr:Fr} {ds:List Deferred} {h h1 h2 h0:H} {T:Nat ->Prop} {G Gr Ga Gb:List (Ast wm)}
end
end Go.Xv
end
end
section
namespace Go.Lf
end Go.Lf
end
section
noncomputable section
namespace Go.Xv
open Go.Lf
section
variable {X:Ctx} {n wm:Nat} {rd:Option Nat} {ops:Array Oper} {l:List Oper} {rest:Code}
section
variable {wm:Nat} {G Gr:List (Ast wm)} {h h0:H} {T0:Nat ->Prop} {fr:Fr} {ds:List Deferred} {κ ν:Type} {kv:κ ->Value} {vv:ν ->Value} {ll:List (κ×ν)} {d:Nat}
end
end
section
variable {P:Program}
end
end Go.Xv
end
end
