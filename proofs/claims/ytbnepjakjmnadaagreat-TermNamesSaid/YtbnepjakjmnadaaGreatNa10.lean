/- Names Part 10 of the proof. -/
import Derived.Laws.Strings
import Derived.Test.YtbnepjakjmnadaaGreatNa9
set_option linter.all false
set_option maxHeartbeats 2000000
section
noncomputable section
namespace Go.Abs
open Go.Lf
variable {X : Ctx} {P : Program} {h : H} {ev : Operand → Option Value} {d : Option Tmp} {ty : TypeId} {p : String} {af : Array Edge} {g : Option (Nat × Bool)}
theorem av_lenStr {x : Operand} {t : TypeId} {s : ByteArray} (hu : X.P.underlying t = some .string) (hx : ev x = some (.string s)) :
    aop X h ev ⟨d, .call { callee := .builtin .len, args := #[x], argTypes := #[t] }, ty, p, af, g⟩ = some (.val (.int .i64 (s.size : Int)), .none) := by
  have he : evs ev [x] = some [.string s] := evs_cons hx evs_nil
  rw [aop_builtin]
  show (match evs ev [x] with
    | some args => abuiltin X.P h .len #[t] ty args
    | none => none) = _
  rw [he]
  show vN (alen X.P h t (.string s)) = _
  unfold alen; rw [hu]; rfl
theorem av_idxStr {x y : Operand} {t : TypeId} {s : ByteArray} {i z : Int} (hu : X.P.underlying t = some .string) (hx : ev x = some (.string s)) (hy : ev y = some (.int .i64 i)) (hz : strAt s i = some z) :
    aop X h ev ⟨d, .index t x y, ty, p, af, g⟩ = some (.val (.int .u8 z), .none) := by
  show (match ev x, ev y with
    | some x, some i => bif plain x && plain i then pN (pval X.P (Instr.index t x i)) else vN (aindexV X.P t x i)
    | _, _ => none) = _
  rw [hx, hy]
  show pN (pval X.P (Instr.index t (.string s) (.int .i64 i))) = _
  have : pureRun X.P (Instr.index t (.string s) (.int .i64 i)) = some (.ok (.int .u8 z)) := by
    unfold Instr.index
    show pureRun X.P (underlying t >>= _) = _
    rw [prb (pr_underlying hu)]
    unfold strAt at hz
    dsimp only
    generalize (if 0 ≤ i then s[i.toNat]? else none) = o at hz ⊢
    cases o with
    | some b => cases hz; rfl
    | none => cases hz
  unfold pval
  rw [this]; rfl
theorem beqB (a b : ByteArray) : (a == b) = decide (a = b) := by
  rw [Bool.eq_iff_iff, decide_eq_true_iff]
  cases a with | mk a => cases b with | mk b =>
  show (a == b) = true ↔ _
  simp
theorem listB (a b : ByteArray) : (a.toList == b.toList) = decide (a = b) := by
  rw [Bool.eq_iff_iff, decide_eq_true_iff, beq_iff_eq, ByteArray.toList_eq, ByteArray.toList_eq]
  exact ⟨fun e => by cases a; cases b; simp at e; simp [e], fun e => by rw [e]⟩
theorem abin_str {op : BinOp} {t : TypeId} {x y : Operand} {a b : ByteArray} {r : Bool} (ho : Op.stringOp op a b = pure (.bool r)) (hq : op = .eql ∨ op = .neq ∨ op = .lss) : abin P op t x y (.string a) (.string b) = some (.val (.bool r), .none) := by
  have hp : (plain (.string a) && plain (.string b)) = true := rfl
  unfold abin
  rw [hp, cond_true]
  have hb : binOp op t (.string a) (.string b) = pure (.bool r) := by
    rcases hq with rfl | rfl | rfl <;> exact ho
  have hg : (do eqGuard op t x y (.string a) (.string b); binOp op t (.string a) (.string b) : Sem Value) = pure (.bool r) := by
    rw [hb]
    rcases hq with rfl | rfl | rfl <;> rfl
  rw [hg]; rfl
theorem abin_eqStr {t : TypeId} {x y : Operand} {a b : ByteArray} : abin P .eql t x y (.string a) (.string b) = some (.val (.bool (decide (a = b))), .none) := abin_str (by rw [← listB]; rfl) (.inl rfl)
theorem KeyT.str {kt : TypeId} (hu : P.underlying kt = some .string) : KeyT P kt Value.string where
  pl := fun _ => rfl
  ok := fun e x => by
    unfold okKey
    rw [show (10000 : Nat) = 9999 + 1 from rfl, ck_str hu]; rfl
  same := fun x => by simp [Instr.sameBits, beqB]
  eq := fun x y => by
    have := eq_str (P := P) (d := 9999) (a := x) (b := y) hu
    rw [beqB] at this
    exact this
  kind := ⟨_, hu, .inr fun x y => by simp only [Instr.sameNow, beqB]⟩
theorem bytesOf_map : ∀ (xs : List Int), bytesOf (xs.map (Value.int .u8)) = some (xs.map fun n => UInt8.ofNat n.toNat) := by
  intro xs
  induction xs with
  | nil => rfl
  | cons x xs ih =>
    show (match bytesOf (xs.map (Value.int .u8)) with
      | some l => some (UInt8.ofNat x.toNat :: l)
      | none => none) = _
    rw [ih]; rfl
theorem ElAt.ints {k : IntKind} {wm : Nat} {cs : List Value} {o : Nat} {xs : List Int} (e : ElAt (rInt k) wm h cs o xs) : (cs.drop o).take xs.length = xs.map (Value.int k) := by
  have hl := e.len
  have hl : o + xs.length * 1 ≤ cs.length := hl
  apply List.ext_getElem?
  intro j
  by_cases hj : j < xs.length
  · obtain ⟨q, h1, _⟩ := e.get j _ (List.getElem?_eq_getElem hj)
    have h1 : (cs.drop (o + j * 1)).take 1 = [.int k xs[j]] := h1
    have h2 : (cs.drop (o + j * 1))[0]? = some (.int k xs[j]) := by
      rw [← List.getElem?_take_of_lt (i := 0) (j := 1) (by omega), h1]; rfl
    rw [List.getElem?_drop] at h2
    rw [List.getElem?_take_of_lt hj, List.getElem?_drop, List.getElem?_map, List.getElem?_eq_getElem hj]
    simpa using h2
  · rw [List.getElem?_eq_none (by simp; omega), List.getElem?_eq_none (by simp; omega)]
theorem av_cvtStr {s t e : TypeId} {x : Operand} {wm n : Nat} {a : Option Addr} {c : Nat} {xs : List Int} {z : ByteArray} (hs : X.P.underlying s = some (.slice e)) (he : X.P.underlying e = some (.int .u8)) (ht : X.P.underlying t = some .string) (hx : ev x = some (.slice a n c)) (hn : n = xs.length) (sr : Src (rInt .u8) wm h a c xs) (hz : strB xs = some z) :
    aop X h ev ⟨d, .convert s t x, ty, p, af, g⟩ = some (.val (.string z), .none) := by
  subst hn
  have hne : xs ≠ [] := fun e => by subst e; cases hz
  have hz : z = ⟨(xs.map fun n => UInt8.ofNat n.toNat).toArray⟩ := by
    cases xs with
    | nil => cases hz
    | cons _ _ => cases hz; rfl
  subst hz
  rcases sr.mem with h0 | ⟨i, o, cs, own, q, rfl, hat, hel⟩
  · exact absurd h0 hne
  · show (match ev x with
      | some a => bif plain a then pN (pval X.P (convert s t a)) else vN (abytes X.P h s t a)
      | none => none) = _
    rw [hx]
    have hp : plain (.slice (some ⟨i, o, none⟩) xs.length c) = false := rfl
    dsimp only
    rw [hp, cond_false]
    have hl := hel.len
    have hl : o + xs.length * 1 ≤ cs.length := hl
    have hpos : 0 < xs.length := List.length_pos_iff.2 hne
    have hb : (Nat.ble 1 xs.length && Nat.ble (o + xs.length) cs.length) = true := by
      rw [Bool.and_eq_true, Nat.ble_eq, Nat.ble_eq]
      omega
    unfold abytes
    rw [hs, ht]
    dsimp only
    rw [he, hat]
    dsimp only
    rw [hb, cond_true, hel.ints, bytesOf_map]
    rfl
theorem abin_addStr {t : TypeId} {x y : Operand} {a b z : ByteArray} (hz : strCat a b = some z) : abin P .add t x y (.string a) (.string b) = some (.val (.string z), .none) := by
  have hp : (plain (.string a) && plain (.string b)) = true := rfl
  unfold strCat at hz
  split at hz
  · cases hz
  · rename_i hn
    cases hz
    unfold abin
    rw [hp, cond_true]
    have hb : binOp .add t (.string a) (.string b) = pure (.string (a ++ b)) := by
      show Op.stringOp .add a b = _
      unfold Op.stringOp
      dsimp only
      exact if_neg hn
    have hg : (do eqGuard .add t x y (.string a) (.string b); binOp .add t (.string a) (.string b) : Sem Value) = pure (.string (a ++ b)) := by
      rw [hb]; rfl
    rw [hg]; rfl
end Go.Abs
end
end
section

end
section
namespace Go.Proofs.YtbnepjakjmnadaaGreat
def f14L : Option Bool := some true
end Go.Proofs.YtbnepjakjmnadaaGreat
end
section
set_option maxRecDepth 100000
noncomputable section
namespace Go.Proofs.YtbnepjakjmnadaaGreat
open Go.Abs Go.Lf
theorem und3 : XX.P.underlying 3 = some (.int .i64) := by kernel_rfl
theorem und4 : XX.P.underlying 4 = some .bool := by kernel_rfl
theorem und5 : XX.P.underlying 5 = some (.int .u8) := by kernel_rfl
theorem und9 : XX.P.underlying 9 = some .string := by kernel_rfl
theorem und22 : XX.P.underlying 22 = some (.slice 9) := by kernel_rfl
theorem und70 : XX.P.underlying 70 = some (.map 9 4) := by kernel_rfl
theorem und138 : XX.P.underlying 138 = some (.slice 5) := by kernel_rfl
theorem agg9 : isAggP XX.P 9 = some false := by kernel_rfl
theorem agg70 : isAggP XX.P 70 = some false := by kernel_rfl
theorem size5 : sizeP XX.P 5 = some 1 := by kernel_rfl
theorem size9 : sizeP XX.P 9 = some 1 := by kernel_rfl
theorem zero4 : zeroP XX.P 4 = some (.bool false) := by kernel_rfl
theorem zero5 : zeroP XX.P 5 = some (.int .u8 0) := by kernel_rfl
theorem zero9 : zeroP XX.P 9 = some (.string ⟨#[]⟩) := by kernel_rfl
theorem app138_138 : AppAt XX.P #[138, 138] 1 1 := ⟨5, .int .u8 0, by kernel_rfl⟩
theorem key9 : KeyT XX.P 9 Value.string := KeyT.str (by kernel_rfl)
theorem has13 : (XX.fns.get 13).isSome = true := by kernel_rfl
theorem has14 : (XX.fns.get 14).isSome = true := by kernel_rfl
theorem has15 : (XX.fns.get 15).isSome = true := by kernel_rfl
theorem has16 : (XX.fns.get 16).isSome = true := by kernel_rfl
theorem has17 : (XX.fns.get 17).isSome = true := by kernel_rfl
theorem has18 : (XX.fns.get 18).isSome = true := by kernel_rfl
theorem has36 : (XX.fns.get 36).isSome = true := by kernel_rfl
theorem has53 : (XX.fns.get 53).isSome = true := by kernel_rfl
theorem has54 : (XX.fns.get 54).isSome = true := by kernel_rfl
theorem has55 : (XX.fns.get 55).isSome = true := by kernel_rfl
theorem has56 : (XX.fns.get 56).isSome = true := by kernel_rfl
theorem has99 : (XX.fns.get 99).isSome = true := by kernel_rfl
end Go.Proofs.YtbnepjakjmnadaaGreat
end
end
section
set_option linter.unusedVariables false
set_option linter.unusedSimpArgs false
namespace Go.Proofs.YtbnepjakjmnadaaGreat
open Go.Lf
def f55_b0 (p0 : (List ByteArray)) : Int × (List (ByteArray × Bool)) → (Int × (List (ByteArray × Bool)) → Option (List (ByteArray × Bool))) → Option (List (ByteArray × Bool)) := fun (v8, v10) next11 =>
  (bif decide (v8 < (p0.length : Int)) then (geti p0 v8).bind fun x12 => next11 (w64 (v8 + 1), mset v10 x12 true) else some v10)
def f55L (F : Nat) (p0 : (List ByteArray)) : Option (List (ByteArray × Bool)) :=
  loop F (f55_b0 p0) (0, [])
def f36_b0 (p0 : (List ByteArray)) (p1 : ByteArray) : Int → (Int → Option Bool) → Option Bool := fun v5 next7 =>
  (bif decide (v5 < (p0.length : Int)) then (geti p0 v5).bind fun x8 => (bif decide (x8 = p1) then some true else next7 (w64 (v5 + 1))) else some false)
def f36L (F : Nat) (p0 : (List ByteArray)) (p1 : ByteArray) : Option Bool :=
  loop F (f36_b0 p0 p1) 0
def f53L : Option (List (ByteArray × Bool)) :=
  some (mset (mset (mset (mset (mset (mset (mset (mset (mset (mset ([] : (List (ByteArray × Bool))) (⟨#[97, 110, 100]⟩ : ByteArray) true) (⟨#[100, 101, 102]⟩ : ByteArray) true) (⟨#[101, 108, 115, 101]⟩ : ByteArray) true) (⟨#[103, 111]⟩ : ByteArray) true) (⟨#[105, 102]⟩ : ByteArray) true) (⟨#[105, 110]⟩ : ByteArray) true) (⟨#[112, 108, 97, 99, 101]⟩ : ByteArray) true) (⟨#[115, 116, 111, 112]⟩ : ByteArray) true) (⟨#[116, 104, 101, 110]⟩ : ByteArray) true) (⟨#[119, 97, 116, 99, 104]⟩ : ByteArray) true)
end Go.Proofs.YtbnepjakjmnadaaGreat
end
section
set_option linter.unusedVariables false
set_option linter.unusedSimpArgs false
set_option maxRecDepth 20000
noncomputable section
namespace Go.Proofs.YtbnepjakjmnadaaGreat
open Go.Abs Go.Lf
theorem f55_wf {F : Nat} {wm : Nat} {h : H} {p0 : (List ByteArray)} {pa0_0 : Option Addr} {pc0_0 : Nat} {r : (List (ByteArray × Bool))} (hwm : wm ≤ h.size) (hsp0_0 : Sl rStr wm h pa0_0 pc0_0 p0) (hL : f55L F p0 = some r) :
    WR XX 55 #[.slice pa0_0 p0.length pc0_0] wm h (CP (fun (v : Value) (Gb : List (Ast wm)) => ∃ (rm0_0 : Nat), v = .map (some rm0_0) ∧ Gb = [mp wm Value.string Value.bool (some rm0_0) r]) [] h) := by
 refine WF.begin (args := [_]) (fn := Tryz.f55) (by kernel_rfl) (by exact rfl) Tryz.ntmps55 (by simp) ?_
 simp only [frameOf_cons, frameOf_nil, Nat.reduceAdd]
 obtain ⟨T, hT, hS⟩ : ∃ T, T = Fps (wm := wm) [] ∧ Sp wm T h [] h := ⟨_, rfl, Sp.start hwm Hold.nil⟩
 unfold f55L at hL
 refine WC.seq ?_
 refine WC.region ?_
 refine WO.w gN rfl (av_assign (evC rfl)) ?_
 refine WO.nil ?_
 refine SeqK.nrm ?_
 refine WC.seq ?_
 refine WC.region ?_
 refine WO.hn gN rfl (s_mkm Value.string Value.bool hS) ?_
 rintro _ h1 ⟨b2, eb2, rfl, hS⟩
 refine WO.w gN rfl (av_assign (evT fh rfl)) ?_
 refine WO.nil ?_
 refine SeqK.nrm ?_
 refine WC.seq ?_
 refine WC.seq ?_
 refine WC.region ?_
 refine WO.w gN rfl (av_move (evT (fs2 rfl (fskip rfl fh)) rfl)) ?_
 refine WO.w gN rfl (av_lenO und22 (evT fh rfl) rfl) ?_
 refine WO.w gN rfl (av_move (evC rfl)) ?_
 refine WO.nil ?_
 refine SeqK.nrm ?_
 refine WC.block ?_
 refine WC.loop (WL.lift hL (fun (p : Int × (List (ByteArray × Bool))) (s : Fs) => match p with | (v8, v10) => ∃ (fr4 : Fr) (h3 : H), s = ⟨fr4, [], h3, none⟩ ∧ Sp wm T h [mp wm Value.string Value.bool (some b2) v10] h3 ∧ fr4.at 3 = .map (some b2) ∧ fr4.at 7 = .slice pa0_0 p0.length pc0_0 ∧ fr4.at 8 = .int .i64 (p0.length : Int) ∧ fr4.at 9 = .int .i64 v8) ⟨_, _, rfl, hS.only (.c k0 .n), (fs2 rfl (fskip rfl fh)), (fs2 rfl fh), (fskip rfl fh), fh⟩ ?_)
 clear hL hS
 rintro next11 ⟨v8, v10⟩ s hnext11 hL ⟨fr4, h3, rfl, hS, e5, e6, e7, e9⟩
 dsimp only [f55_b0] at hL
 refine WC.seq ?_
 refine WC.region ?_
 refine WO.w gN rfl (av_bin (evT e9 rfl) (evT e7 rfl) abin_lss) ?_
 refine WO.nil ?_
 refine SeqK.nrm ?_
 refine WC.seq ?_
 refine WC.condN (evT fh rfl) (fun hc => ?_) (fun hc => ?_)
 · replace hL := cond_tt hc hL
   refine WC.skip ?_
   refine SeqK.nrm ?_
   refine WC.seq ?_
   refine WC.block ?_
   refine WC.seq ?_
   refine WC.region ?_
   obtain ⟨x12, hx12, hL⟩ := bind_some hL
   obtain ⟨b13, o14, _, hab13, hAb13, hBb13, hFb13⟩ := Sl.at_ hsp0_0 hx12
   refine WO.w gN rfl (av_ixn und22 size9 (evT (fskip rfl e6) rfl) (evT (fskip rfl e9) rfl) rfl hab13 hx12) ?_
   refine WO.w gN rfl (av_ld agg9 (evT fh rfl) (At.fz hS.fz hBb13 hAb13) (j := 0) rfl (v := .string x12) rfl) ?_
   refine WO.w gN rfl (av_assign (evT fh rfl)) ?_
   refine WO.nil ?_
   refine SeqK.nrm ?_
   refine WC.region ?_
   refine WO.w gN rfl (av_move (evT (fs4 rfl e5) rfl)) ?_
   refine WO.w gN rfl (av_move (evT (fskip rfl fh) rfl)) ?_
   refine WO.hu gN (s_upd (kv := Value.string) (vv := Value.bool) (k := x12) (v := true) hS k0 key9 und70 (evT (fskip rfl fh) rfl) (evT fh rfl) (evC rfl)) ?_
   rintro h15 hS
   refine WO.nil ?_
   refine BlkK.nrm ?_
   refine SeqK.nrm ?_
   refine WC.region ?_
   refine WO.w gN rfl (av_bin (evT (fs4 rfl (fs2 rfl e9)) rfl) (evC rfl) abin_addw) ?_
   refine WO.w gN rfl (av_move (evT fh rfl)) ?_
   refine WO.nil ?_
   exact LoopK.nrm (hnext11 _ _ hL ⟨_, _, rfl, hS.only (.c k0 .n), (fs8 rfl e5), (fs8 rfl e6), (fs8 rfl e7), fh⟩)
 · replace hL := cond_ff hc hL
   refine WC.exit ?_
   refine SeqK.exit ?_
   refine LoopK.exit ?_
   refine BlkK.here ?_
   refine SeqK.nrm ?_
   refine WC.seq ?_
   refine WC.region ?_
   refine WO.w gN rfl (av_move (evT (fskip rfl e5) rfl)) ?_
   refine WO.w gN rfl (av_assign (evT fh rfl)) ?_
   refine WO.nil ?_
   refine SeqK.nrm ?_
   refine WC.ret ?_
   have hr := Option.some.inj hL
   subst hr
   exact RetK.gen1 rfl (ares_tmp (evT fh rfl) ares_nil) ⟨_, ⟨b2, rfl, rfl⟩, hT ▸ hS.only (.c k0 .n)⟩
theorem f36_wf {F : Nat} {wm : Nat} {h : H} {p0 : (List ByteArray)} {p1 : ByteArray} {pa0_0 : Option Addr} {pc0_0 : Nat} {r : Bool} (hwm : wm ≤ h.size) (hsp0_0 : Sl rStr wm h pa0_0 pc0_0 p0) (hL : f36L F p0 p1 = some r) :
    WR XX 36 #[.slice pa0_0 p0.length pc0_0, .string p1] wm h (CP (fun (v : Value) (Gb : List (Ast wm)) => v = .bool r ∧ Gb = []) [] h) := by
 refine WF.begin (args := [_, _]) (fn := Tryz.f36) (by kernel_rfl) (by exact rfl) Tryz.ntmps36 (by simp) ?_
 simp only [frameOf_cons, frameOf_nil, Nat.reduceAdd]
 obtain ⟨T, hT, hS⟩ : ∃ T, T = Fps (wm := wm) [] ∧ Sp wm T h [] h := ⟨_, rfl, Sp.start hwm Hold.nil⟩
 unfold f36L at hL
 refine WC.seq ?_
 refine WC.region ?_
 refine WO.w gN rfl (av_assign (evC rfl)) ?_
 refine WO.nil ?_
 refine SeqK.nrm ?_
 refine WC.seq ?_
 refine WC.seq ?_
 refine WC.region ?_
 refine WO.w gN rfl (av_assign (evC rfl)) ?_
 refine WO.nil ?_
 refine SeqK.nrm ?_
 refine WC.block ?_
 refine WC.loop (WL.lift hL (fun (v5 : Int) (s : Fs) => ∃ (fr2 : Fr) (h1 : H), s = ⟨fr2, [], h1, none⟩ ∧ Sp wm T h [] h1 ∧ fr2.at 0 = .slice pa0_0 p0.length pc0_0 ∧ fr2.at 1 = .string p1 ∧ fr2.at 5 = .int .i64 v5) ⟨_, _, rfl, hS.only .n, (fs2 rfl (fskip rfl fh)), (fs2 rfl fh), fh⟩ ?_)
 clear hL hS
 rintro next7 v5 s hnext7 hL ⟨fr2, h1, rfl, hS, e3, e4, e6⟩
 dsimp only [f36_b0] at hL
 refine WC.seq ?_
 refine WC.seq ?_
 refine WC.region ?_
 refine WO.w gN rfl (av_move (evT e6 rfl)) ?_
 refine WO.w gN rfl (av_move (evT (fskip rfl e3) rfl)) ?_
 refine WO.w gN rfl (av_lenO und22 (evT fh rfl) rfl) ?_
 refine WO.w gN rfl (av_bin (evT (fs2 rfl fh) rfl) (evT fh rfl) abin_lss) ?_
 refine WO.nil ?_
 refine SeqK.nrm ?_
 refine WC.condN (evT fh rfl) (fun hc => ?_) (fun hc => ?_)
 · replace hL := cond_tt hc hL
   refine WC.skip ?_
   refine SeqK.nrm ?_
   refine WC.seq ?_
   refine WC.block ?_
   refine WC.seq ?_
   refine WC.region ?_
   refine WO.w gN rfl (av_move (evT (fs4 rfl e3) rfl)) ?_
   refine WO.w gN rfl (av_move (evT (fs4 rfl (fskip rfl e6)) rfl)) ?_
   obtain ⟨x8, hx8, hL⟩ := bind_some hL
   obtain ⟨b9, o10, _, hab9, hAb9, hBb9, hFb9⟩ := Sl.at_ hsp0_0 hx8
   refine WO.w gN rfl (av_ixn und22 size9 (evT (fskip rfl fh) rfl) (evT fh rfl) rfl hab9 hx8) ?_
   refine WO.w gN rfl (av_ld agg9 (evT fh rfl) (At.fz hS.fz hBb9 hAb9) (j := 0) rfl (v := .string x8) rfl) ?_
   refine WO.w gN rfl (av_move (evT (fs8 rfl e4) rfl)) ?_
   refine WO.w gN rfl (av_bin (evT (fskip rfl fh) rfl) (evT fh rfl) abin_eqStr) ?_
   refine WO.nil ?_
   refine SeqK.nrm ?_
   refine WC.condN (evT fh rfl) (fun hc => ?_) (fun hc => ?_)
   · replace hL := cond_tt hc hL
     refine WC.seq ?_
     refine WC.region ?_
     refine WO.w gN rfl (av_assign (evC rfl)) ?_
     refine WO.nil ?_
     refine SeqK.nrm ?_
     refine WC.ret ?_
     refine BlkK.ret ?_
     refine SeqK.ret ?_
     refine LoopK.ret ?_
     refine BlkK.ret ?_
     refine SeqK.ret ?_
     have hr := Option.some.inj hL
     subst hr
     exact RetK.gen1 rfl (ares_tmp (evT fh rfl) ares_nil) ⟨_, ⟨rfl, rfl⟩, hT ▸ hS.only .n⟩
   · replace hL := cond_ff hc hL
     refine WC.skip ?_
     refine BlkK.nrm ?_
     refine SeqK.nrm ?_
     refine WC.region ?_
     refine WO.w gN rfl (av_move (evT (fs8 rfl (fs2 rfl e6)) rfl)) ?_
     refine WO.w gN rfl (av_bin (evT fh rfl) (evC rfl) abin_addw) ?_
     refine WO.w gN rfl (av_assign (evT fh rfl)) ?_
     refine WO.nil ?_
     exact LoopK.nrm (hnext7 _ _ hL ⟨_, _, rfl, hS.only .n, (fs8 rfl (fs4 rfl (fskip rfl e3))), (fs8 rfl (fs4 rfl (fskip rfl e4))), fh⟩)
 · replace hL := cond_ff hc hL
   refine WC.exit ?_
   refine SeqK.exit ?_
   refine LoopK.exit ?_
   refine BlkK.here ?_
   refine SeqK.nrm ?_
   refine WC.seq ?_
   refine WC.region ?_
   refine WO.w gN rfl (av_assign (evC rfl)) ?_
   refine WO.nil ?_
   refine SeqK.nrm ?_
   refine WC.ret ?_
   have hr := Option.some.inj hL
   subst hr
   exact RetK.gen1 rfl (ares_tmp (evT fh rfl) ares_nil) ⟨_, ⟨rfl, rfl⟩, hT ▸ hS.only .n⟩
theorem f36_ok {F : Nat} {h : H} {p0 : (List ByteArray)} {p1 : ByteArray} {pa0_0 : Option Addr} {pc0_0 : Nat} {r : Bool} (hsp0_0 : Sl rStr h.size h pa0_0 pc0_0 p0) (hL : f36L F p0 p1 = some r) : Pure XX 36 #[.slice pa0_0 p0.length pc0_0, .string p1] h (.bool r) :=
 WR.pureC rfl (f36_wf (Nat.le_refl _) hsp0_0 hL)
theorem f53_wf {wm : Nat} {h : H}  {r : (List (ByteArray × Bool))} (hwm : wm ≤ h.size)  (hL : f53L = some r) :
    WR XX 53 #[] wm h (CP (fun (v : Value) (Gb : List (Ast wm)) => ∃ (rm0_0 : Nat), v = .map (some rm0_0) ∧ Gb = [mp wm Value.string Value.bool (some rm0_0) r]) [] h) := by
 refine WF.begin (args := []) (fn := Tryz.f53) (by kernel_rfl) (by exact rfl) Tryz.ntmps53 (by simp) ?_
 simp only [frameOf_cons, frameOf_nil, Nat.reduceAdd]
 obtain ⟨T, hT, hS⟩ : ∃ T, T = Fps (wm := wm) [] ∧ Sp wm T h [] h := ⟨_, rfl, Sp.start hwm Hold.nil⟩
 unfold f53L at hL
 refine WC.seq ?_
 refine WC.region ?_
 refine WO.w gN rfl (av_assign (evC rfl)) ?_
 refine WO.nil ?_
 refine SeqK.nrm ?_
 refine WC.seq ?_
 refine WC.region ?_
 refine WO.hn gN rfl (s_mkm Value.string Value.bool hS) ?_
 rintro _ h1 ⟨b2, eb2, rfl, hS⟩
 refine WO.hu gN (s_ins (kv := Value.string) (vv := Value.bool) (k := (⟨#[97, 110, 100]⟩ : ByteArray)) (v := true) hS k0 key9 und70 (evT fh rfl) (evC rfl) (evC rfl)) ?_
 rintro h3 hS
 refine WO.hu gN (s_ins (kv := Value.string) (vv := Value.bool) (k := (⟨#[100, 101, 102]⟩ : ByteArray)) (v := true) hS k0 key9 und70 (evT fh rfl) (evC rfl) (evC rfl)) ?_
 rintro h4 hS
 refine WO.hu gN (s_ins (kv := Value.string) (vv := Value.bool) (k := (⟨#[101, 108, 115, 101]⟩ : ByteArray)) (v := true) hS k0 key9 und70 (evT fh rfl) (evC rfl) (evC rfl)) ?_
 rintro h5 hS
 refine WO.hu gN (s_ins (kv := Value.string) (vv := Value.bool) (k := (⟨#[103, 111]⟩ : ByteArray)) (v := true) hS k0 key9 und70 (evT fh rfl) (evC rfl) (evC rfl)) ?_
 rintro h6 hS
 refine WO.hu gN (s_ins (kv := Value.string) (vv := Value.bool) (k := (⟨#[105, 102]⟩ : ByteArray)) (v := true) hS k0 key9 und70 (evT fh rfl) (evC rfl) (evC rfl)) ?_
 rintro h7 hS
 refine WO.hu gN (s_ins (kv := Value.string) (vv := Value.bool) (k := (⟨#[105, 110]⟩ : ByteArray)) (v := true) hS k0 key9 und70 (evT fh rfl) (evC rfl) (evC rfl)) ?_
 rintro h8 hS
 refine WO.hu gN (s_ins (kv := Value.string) (vv := Value.bool) (k := (⟨#[112, 108, 97, 99, 101]⟩ : ByteArray)) (v := true) hS k0 key9 und70 (evT fh rfl) (evC rfl) (evC rfl)) ?_
 rintro h9 hS
 refine WO.hu gN (s_ins (kv := Value.string) (vv := Value.bool) (k := (⟨#[115, 116, 111, 112]⟩ : ByteArray)) (v := true) hS k0 key9 und70 (evT fh rfl) (evC rfl) (evC rfl)) ?_
 rintro h10 hS
 refine WO.hu gN (s_ins (kv := Value.string) (vv := Value.bool) (k := (⟨#[116, 104, 101, 110]⟩ : ByteArray)) (v := true) hS k0 key9 und70 (evT fh rfl) (evC rfl) (evC rfl)) ?_
 rintro h11 hS
 refine WO.hu gN (s_ins (kv := Value.string) (vv := Value.bool) (k := (⟨#[119, 97, 116, 99, 104]⟩ : ByteArray)) (v := true) hS k0 key9 und70 (evT fh rfl) (evC rfl) (evC rfl)) ?_
 rintro h12 hS
 refine WO.w gN rfl (av_move (evT fh rfl)) ?_
 refine WO.w gN rfl (av_assign (evT fh rfl)) ?_
 refine WO.nil ?_
 refine SeqK.nrm ?_
 refine WC.ret ?_
 have hr := Option.some.inj hL
 subst hr
 exact RetK.gen1 rfl (ares_tmp (evT fh rfl) ares_nil) ⟨_, ⟨b2, rfl, rfl⟩, hT ▸ hS.only (.c k0 .n)⟩
end Go.Proofs.YtbnepjakjmnadaaGreat
end
end
section
set_option linter.unusedVariables false
set_option linter.unusedSimpArgs false
namespace Go.Proofs.YtbnepjakjmnadaaGreat
open Go.Lf
def f16_b0 (F : Nat) (p0 : ByteArray) : Int → (Int → Option Bool) → Option Bool := fun v4 next6 =>
  (bif decide (v4 < (p0.size : Int)) then (strAt p0 v4).bind fun z7 => (gd (!(decide (z7 < 97))) (strAt p0 v4) default).bind fun z8 => (bif ((decide (z7 < 97)) || (decide (z8 > 122))) then some false else next6 (w64 (v4 + 1))) else (f36L F ([(⟨#[97, 110, 100]⟩ : ByteArray), (⟨#[100, 101, 102]⟩ : ByteArray), (⟨#[101, 108, 115, 101]⟩ : ByteArray), (⟨#[103, 111]⟩ : ByteArray), (⟨#[105, 102]⟩ : ByteArray), (⟨#[105, 110]⟩ : ByteArray), (⟨#[112, 108, 97, 99, 101]⟩ : ByteArray), (⟨#[115, 116, 111, 112]⟩ : ByteArray), (⟨#[116, 104, 101, 110]⟩ : ByteArray), (⟨#[119, 97, 116, 99, 104]⟩ : ByteArray)]) p0).bind fun x11 => some (!x11))
def f16L (F : Nat) (p0 : ByteArray) : Option Bool :=
  (bif ((decide ((p0.size : Int) < 1)) || (decide ((p0.size : Int) > 8))) then some false else loop F (f16_b0 F p0) 0)
def f15_b0 (p0 : ByteArray) : Int → (Int → Option Bool) → Option Bool := fun v5 next7 =>
  (bif decide (v5 < (p0.size : Int)) then (strAt p0 v5).bind fun z8 => (gd (!(decide (z8 < 97))) (strAt p0 v5) default).bind fun z9 => (bif ((decide (z8 < 97)) || (decide (z9 > 122))) then some false else next7 (w64 (v5 + 1))) else (bif ((decide ((p0.size : Int) > 0)) && (decide ((p0.size : Int) ≤ 8))) then (f53L).bind fun x11 => (pget x11 p0 false).bind fun x15 => some (!x15) else some false))
def f15L (F : Nat) (p0 : ByteArray) : Option Bool :=
  loop F (f15_b0 p0) 0
def f13_b0 (p0 : (List ByteArray)) : Int → (Int → Option Bool) → Option Bool := fun v4 next6 =>
  (bif ((decide (v4 < (p0.length : Int))) && (decide (v4 < 100))) then (geti p0 v4).bind fun x7 => (bif decide ((x7.size : Int) > 30) then some false else next6 (w64 (v4 + 1))) else some (decide ((p0.length : Int) ≤ 90)))
def f13L (F : Nat) (p0 : (List ByteArray)) : Option Bool :=
  loop F (f13_b0 p0) 0
def f56_b0 : Int × ByteArray → (Int × ByteArray → Option ByteArray) → Option ByteArray := fun (v3, v5) next7 =>
  (bif decide (v3 > 0) then (remL (w64 (v3 - 1)) 26).bind fun x8 => (strB [IntKind.wrap .u8 (w64 (97 + x8))]).bind fun z11 => (strCat z11 v5).bind fun z12 => (quoL (w64 (v3 - 1)) 26).bind fun x13 => next7 (x13, z12) else some v5)
def f56L (F : Nat) (p0 : Int) : Option ByteArray :=
  loop F (f56_b0) (p0, (⟨#[]⟩ : ByteArray))
def f54_j0 : ByteArray × Bool → Option ByteArray := fun (v12, sp13) =>
  (bif sp13 then some v12 else some (⟨#[]⟩ : ByteArray))
def f54_b1 (F : Nat) (p0 : (List (ByteArray × Bool))) (v23 : Int) (v25 : ByteArray) (sp26 : Bool) (next27 : (Int × ByteArray × Bool → Option ByteArray)) : (List Int) × Int → ((List Int) × Int → Option ByteArray) → Option ByteArray := fun (v32, v37) next39 =>
  (bif decide (v37 > 0) then (remL (w64 (v37 - 1)) 26).bind fun x40 => (app 1 [IntKind.wrap .u8 (w64 (97 + x40))] v32).bind fun z43 => (quoL (w64 (v37 - 1)) 26).bind fun x47 => next39 (z43, x47) else (strB v32).bind fun z48 => (bif sp26 then none else (f15L F z48).bind fun x51 => (gd x51 (pget p0 z48 false) default).bind fun x52 => (bif (x51 && (!x52)) then (bif (!false) then (f54_j0) (z48, true) else next27 (w64 (v23 + 1), z48, true)) else (bif (!true) then (f54_j0) (v25, false) else next27 (w64 (v23 + 1), v25, false)))))
def f54_b0 (F : Nat) (p0 : (List (ByteArray × Bool))) : Int × ByteArray × Bool → (Int × ByteArray × Bool → Option ByteArray) → Option ByteArray := fun (v23, v25, sp26) next27 =>
  loop F (f54_b1 F p0 v23 v25 sp26 next27) ([], v23)
def f54L (F : Nat) (p0 : (List (ByteArray × Bool))) : Option ByteArray :=
  loop F (f54_b0 F p0) (1, (⟨#[]⟩ : ByteArray), false)
end Go.Proofs.YtbnepjakjmnadaaGreat
end
section
set_option linter.unusedVariables false
set_option linter.unusedSimpArgs false
set_option maxRecDepth 20000
noncomputable section
namespace Go.Proofs.YtbnepjakjmnadaaGreat
open Go.Abs Go.Lf
theorem f16_wf {F : Nat} {wm : Nat} {h : H} {p0 : ByteArray}  {r : Bool} (hwm : wm ≤ h.size)  (hL : f16L F p0 = some r) :
    WR XX 16 #[.string p0] wm h (CP (fun (v : Value) (Gb : List (Ast wm)) => v = .bool r ∧ Gb = []) [] h) := by
 refine WF.begin (args := [_]) (fn := Tryz.f16) (by kernel_rfl) (by exact rfl) Tryz.ntmps16 (by simp) ?_
 simp only [frameOf_cons, frameOf_nil, Nat.reduceAdd]
 obtain ⟨T, hT, hS⟩ : ∃ T, T = Fps (wm := wm) [] ∧ Sp wm T h [] h := ⟨_, rfl, Sp.start hwm Hold.nil⟩
 unfold f16L at hL
 refine WC.seq ?_
 refine WC.region ?_
 refine WO.w gN rfl (av_assign (evC rfl)) ?_
 refine WO.nil ?_
 refine SeqK.nrm ?_
 refine WC.seq ?_
 refine WC.seq ?_
 refine WC.region ?_
 refine WO.w gN rfl (av_move (evT (fskip rfl fh) rfl)) ?_
 refine WO.w gN rfl (av_lenStr und9 (evT fh rfl)) ?_
 refine WO.w gN rfl (av_bin (evT fh rfl) (evC rfl) abin_lss) ?_
 refine WO.w gN rfl (av_move (evT fh rfl)) ?_
 refine WO.gv (GuardIs.no rfl rfl rfl fh) rfl (fun hg => (av_move (evT (fs4 rfl (fskip rfl fh)) rfl))) ?_
 refine WO.gv (GuardIs.no rfl rfl rfl (fskip rfl fh)) rfl (fun hg => (av_lenStr und9 (evG fh rfl hg))) ?_
 refine WO.gv (GuardIs.no rfl rfl rfl (fs2 rfl fh)) rfl (fun hg => (av_bin (evG fh rfl hg) (evC rfl) abin_gtr)) ?_
 refine WO.w gN rfl (av_or (evT (fs2 rfl (fskip rfl fh)) rfl) (evC rfl) (evGU fh)) ?_
 refine WO.nil ?_
 refine SeqK.nrm ?_
 refine WC.condN (evT fh rfl) (fun hc => ?_) (fun hc => ?_)
 · replace hL := cond_tt hc hL
   refine WC.seq ?_
   refine WC.region ?_
   refine WO.w gN rfl (av_assign (evC rfl)) ?_
   refine WO.nil ?_
   refine SeqK.nrm ?_
   refine WC.ret ?_
   refine SeqK.ret ?_
   have hr := Option.some.inj hL
   subst hr
   exact RetK.gen1 rfl (ares_tmp (evT fh rfl) ares_nil) ⟨_, ⟨rfl, rfl⟩, hT ▸ hS.only .n⟩
 · replace hL := cond_ff hc hL
   refine WC.skip ?_
   refine SeqK.nrm ?_
   refine WC.seq ?_
   refine WC.seq ?_
   refine WC.region ?_
   refine WO.w gN rfl (av_assign (evC rfl)) ?_
   refine WO.nil ?_
   refine SeqK.nrm ?_
   refine WC.block ?_
   refine WC.loop (WL.lift hL (fun (v4 : Int) (s : Fs) => ∃ (fr2 : Fr) (h1 : H), s = ⟨fr2, [], h1, none⟩ ∧ Sp wm T h [] h1 ∧ fr2.at 0 = .string p0 ∧ fr2.at 3 = .int .i64 v4) ⟨_, _, rfl, hS.only .n, (fs8 rfl (fs2 rfl fh)), fh⟩ ?_)
   clear hL hS
   rintro next6 v4 s hnext6 hL ⟨fr2, h1, rfl, hS, e3, e5⟩
   dsimp only [f16_b0] at hL
   refine WC.seq ?_
   refine WC.seq ?_
   refine WC.region ?_
   refine WO.w gN rfl (av_move (evT e5 rfl)) ?_
   refine WO.w gN rfl (av_move (evT (fskip rfl e3) rfl)) ?_
   refine WO.w gN rfl (av_lenStr und9 (evT fh rfl)) ?_
   refine WO.w gN rfl (av_bin (evT (fs2 rfl fh) rfl) (evT fh rfl) abin_lss) ?_
   refine WO.nil ?_
   refine SeqK.nrm ?_
   refine WC.condN (evT fh rfl) (fun hc => ?_) (fun hc => ?_)
   · replace hL := cond_tt hc hL
     refine WC.skip ?_
     refine SeqK.nrm ?_
     refine WC.seq ?_
     refine WC.block ?_
     refine WC.seq ?_
     refine WC.region ?_
     refine WO.w gN rfl (av_move (evT (fs4 rfl e3) rfl)) ?_
     refine WO.w gN rfl (av_move (evT (fs4 rfl (fskip rfl e5)) rfl)) ?_
     obtain ⟨z7, hz7, hL⟩ := bind_some hL
     refine WO.w gN rfl (av_idxStr und9 (evT (fskip rfl fh) rfl) (evT fh rfl) hz7) ?_
     refine WO.w gN rfl (av_bin (evT fh rfl) (evC rfl) abin_lss) ?_
     refine WO.w gN rfl (av_move (evT fh rfl)) ?_
     refine WO.gv (GuardIs.no rfl rfl rfl fh) rfl (fun hg => (av_move (evT (fs8 rfl (fskip rfl e3)) rfl))) ?_
     refine WO.gv (GuardIs.no rfl rfl rfl (fskip rfl fh)) rfl (fun hg => (av_move (evT (fs8 rfl (fs2 rfl e5)) rfl))) ?_
     obtain ⟨z8, hz8, hL⟩ := gd_some hL
     refine WO.gv (GuardIs.no rfl rfl rfl (fs2 rfl fh)) rfl (fun hg => (av_idxStr und9 (evG (fskip rfl fh) rfl hg) (evG fh rfl hg) (hz8 hg))) ?_
     refine WO.gv (GuardIs.no rfl rfl rfl (fs2 rfl (fskip rfl fh))) rfl (fun hg => (av_bin (evG fh rfl hg) (evC rfl) abin_gtr)) ?_
     refine WO.w gN rfl (av_or (evT (fs4 rfl fh) rfl) (evC rfl) (evGU fh)) ?_
     refine WO.nil ?_
     refine SeqK.nrm ?_
     refine WC.condN (evT fh rfl) (fun hc => ?_) (fun hc => ?_)
     · replace hL := cond_tt hc hL
       refine WC.seq ?_
       refine WC.region ?_
       refine WO.w gN rfl (av_assign (evC rfl)) ?_
       refine WO.nil ?_
       refine SeqK.nrm ?_
       refine WC.ret ?_
       refine BlkK.ret ?_
       refine SeqK.ret ?_
       refine LoopK.ret ?_
       refine BlkK.ret ?_
       refine SeqK.ret ?_
       have hr := Option.some.inj hL
       subst hr
       exact RetK.gen1 rfl (ares_tmp (evT fh rfl) ares_nil) ⟨_, ⟨rfl, rfl⟩, hT ▸ hS.only .n⟩
     · replace hL := cond_ff hc hL
       refine WC.skip ?_
       refine BlkK.nrm ?_
       refine SeqK.nrm ?_
       refine WC.region ?_
       refine WO.w gN rfl (av_move (evT (fs8 rfl (fs4 rfl (fs2 rfl e5))) rfl)) ?_
       refine WO.w gN rfl (av_bin (evT fh rfl) (evC rfl) abin_addw) ?_
       refine WO.w gN rfl (av_assign (evT fh rfl)) ?_
       refine WO.nil ?_
       exact LoopK.nrm (hnext6 _ _ hL ⟨_, _, rfl, hS.only .n, (fs8 rfl (fs8 rfl (fskip rfl e3))), fh⟩)
   · replace hL := cond_ff hc hL
     refine WC.exit ?_
     refine SeqK.exit ?_
     refine LoopK.exit ?_
     refine BlkK.here ?_
     refine SeqK.nrm ?_
     refine WC.seq ?_
     refine WC.region ?_
     refine WO.hn gN rfl (s_bs (e := rStr) hS und22 size9 zero9 rfl rfl rfl (evp_cons (evC rfl) (evp_cons (evC rfl) (evp_cons (evC rfl) (evp_cons (evC rfl) (evp_cons (evC rfl) (evp_cons (evC rfl) (evp_cons (evC rfl) (evp_cons (evC rfl) (evp_cons (evC rfl) (evp_cons (evC rfl) evp_nil)))))))))) rfl [((), (⟨#[97, 110, 100]⟩ : ByteArray)), ((), (⟨#[100, 101, 102]⟩ : ByteArray)), ((), (⟨#[101, 108, 115, 101]⟩ : ByteArray)), ((), (⟨#[103, 111]⟩ : ByteArray)), ((), (⟨#[105, 102]⟩ : ByteArray)), ((), (⟨#[105, 110]⟩ : ByteArray)), ((), (⟨#[112, 108, 97, 99, 101]⟩ : ByteArray)), ((), (⟨#[115, 116, 111, 112]⟩ : ByteArray)), ((), (⟨#[116, 104, 101, 110]⟩ : ByteArray)), ((), (⟨#[119, 97, 116, 99, 104]⟩ : ByteArray))] rfl (xs := [(⟨#[97, 110, 100]⟩ : ByteArray), (⟨#[100, 101, 102]⟩ : ByteArray), (⟨#[101, 108, 115, 101]⟩ : ByteArray), (⟨#[103, 111]⟩ : ByteArray), (⟨#[105, 102]⟩ : ByteArray), (⟨#[105, 110]⟩ : ByteArray), (⟨#[112, 108, 97, 99, 101]⟩ : ByteArray), (⟨#[115, 116, 111, 112]⟩ : ByteArray), (⟨#[116, 104, 101, 110]⟩ : ByteArray), (⟨#[119, 97, 116, 99, 104]⟩ : ByteArray)]) rfl (by intro q hq; simp only [List.mem_cons, List.not_mem_nil, or_false] at hq; rcases hq with rfl | rfl | rfl | rfl | rfl | rfl | rfl | rfl | rfl | rfl <;> first | exact trivial) rfl) ?_
     rintro _ h10 ⟨b9, eb9, rfl, hS⟩
     refine WO.w gN rfl (av_move (evT (fs4 rfl (fskip rfl e3)) rfl)) ?_
     obtain ⟨x11, hx11, hL⟩ := bind_some hL
     refine WO.cp gN rfl (Ent.fn has36 (evs_cons (evT (fskip rfl fh) rfl) (evs_cons (evT fh rfl) evs_nil))) (f36_ok (hS.ord k0) hx11) ?_
     refine WO.w gN rfl (av_not (evT fh rfl)) ?_
     refine WO.w gN rfl (av_assign (evT fh rfl)) ?_
     refine WO.nil ?_
     refine SeqK.nrm ?_
     refine WC.ret ?_
     have hr := Option.some.inj hL
     subst hr
     exact RetK.gen1 rfl (ares_tmp (evT fh rfl) ares_nil) ⟨_, ⟨rfl, rfl⟩, hT ▸ hS.only .n⟩
theorem f16_ok {F : Nat} {h : H} {p0 : ByteArray}  {r : Bool}  (hL : f16L F p0 = some r) : Pure XX 16 #[.string p0] h (.bool r) :=
 WR.pureC rfl (f16_wf (Nat.le_refl _)  hL)
theorem f15_wf {F : Nat} {wm : Nat} {h : H} {p0 : ByteArray}  {r : Bool} (hwm : wm ≤ h.size)  (hL : f15L F p0 = some r) :
    WR XX 15 #[.string p0] wm h (CP (fun (v : Value) (Gb : List (Ast wm)) => v = .bool r ∧ Gb = []) [] h) := by
 refine WF.begin (args := [_]) (fn := Tryz.f15) (by kernel_rfl) (by exact rfl) Tryz.ntmps15 (by simp) ?_
 simp only [frameOf_cons, frameOf_nil, Nat.reduceAdd]
 obtain ⟨T, hT, hS⟩ : ∃ T, T = Fps (wm := wm) [] ∧ Sp wm T h [] h := ⟨_, rfl, Sp.start hwm Hold.nil⟩
 unfold f15L at hL
 refine WC.seq ?_
 refine WC.region ?_
 refine WO.w gN rfl (av_assign (evC rfl)) ?_
 refine WO.nil ?_
 refine SeqK.nrm ?_
 refine WC.seq ?_
 refine WC.seq ?_
 refine WC.region ?_
 refine WO.w gN rfl (av_move (evT (fskip rfl fh) rfl)) ?_
 refine WO.w gN rfl (av_lenStr und9 (evT fh rfl)) ?_
 refine WO.w gN rfl (av_move (evC rfl)) ?_
 refine WO.nil ?_
 refine SeqK.nrm ?_
 refine WC.block ?_
 refine WC.loop (WL.lift hL (fun (v5 : Int) (s : Fs) => ∃ (fr2 : Fr) (h1 : H), s = ⟨fr2, [], h1, none⟩ ∧ Sp wm T h [] h1 ∧ fr2.at 0 = .string p0 ∧ fr2.at 5 = .int .i64 (p0.size : Int) ∧ fr2.at 6 = .int .i64 v5) ⟨_, _, rfl, hS.only .n, (fs4 rfl fh), (fskip rfl fh), fh⟩ ?_)
 clear hL hS
 rintro next7 v5 s hnext7 hL ⟨fr2, h1, rfl, hS, e3, e4, e6⟩
 dsimp only [f15_b0] at hL
 refine WC.seq ?_
 refine WC.region ?_
 refine WO.w gN rfl (av_bin (evT e6 rfl) (evT e4 rfl) abin_lss) ?_
 refine WO.nil ?_
 refine SeqK.nrm ?_
 refine WC.seq ?_
 refine WC.condN (evT fh rfl) (fun hc => ?_) (fun hc => ?_)
 · replace hL := cond_tt hc hL
   refine WC.skip ?_
   refine SeqK.nrm ?_
   refine WC.seq ?_
   refine WC.block ?_
   refine WC.seq ?_
   refine WC.region ?_
   refine WO.w gN rfl (av_move (evT (fskip rfl e6) rfl)) ?_
   refine WO.w gN rfl (av_assign (evT fh rfl)) ?_
   refine WO.nil ?_
   refine SeqK.nrm ?_
   refine WC.seq ?_
   refine WC.region ?_
   refine WO.w gN rfl (av_move (evT (fs2 rfl (fskip rfl e3)) rfl)) ?_
   refine WO.w gN rfl (av_move (evT (fskip rfl fh) rfl)) ?_
   obtain ⟨z8, hz8, hL⟩ := bind_some hL
   refine WO.w gN rfl (av_idxStr und9 (evT (fskip rfl fh) rfl) (evT fh rfl) hz8) ?_
   refine WO.w gN rfl (av_bin (evT fh rfl) (evC rfl) abin_lss) ?_
   refine WO.w gN rfl (av_move (evT fh rfl)) ?_
   refine WO.gv (GuardIs.no rfl rfl rfl fh) rfl (fun hg => (av_move (evT (fs8 rfl e3) rfl))) ?_
   refine WO.gv (GuardIs.no rfl rfl rfl (fskip rfl fh)) rfl (fun hg => (av_move (evT (fs4 rfl (fs2 rfl fh)) rfl))) ?_
   obtain ⟨z9, hz9, hL⟩ := gd_some hL
   refine WO.gv (GuardIs.no rfl rfl rfl (fs2 rfl fh)) rfl (fun hg => (av_idxStr und9 (evG (fskip rfl fh) rfl hg) (evG fh rfl hg) (hz9 hg))) ?_
   refine WO.gv (GuardIs.no rfl rfl rfl (fs2 rfl (fskip rfl fh))) rfl (fun hg => (av_bin (evG fh rfl hg) (evC rfl) abin_gtr)) ?_
   refine WO.w gN rfl (av_or (evT (fs4 rfl fh) rfl) (evC rfl) (evGU fh)) ?_
   refine WO.nil ?_
   refine SeqK.nrm ?_
   refine WC.condN (evT fh rfl) (fun hc => ?_) (fun hc => ?_)
   · replace hL := cond_tt hc hL
     refine WC.seq ?_
     refine WC.region ?_
     refine WO.w gN rfl (av_assign (evC rfl)) ?_
     refine WO.nil ?_
     refine SeqK.nrm ?_
     refine WC.ret ?_
     refine BlkK.ret ?_
     refine SeqK.ret ?_
     refine LoopK.ret ?_
     refine BlkK.ret ?_
     refine SeqK.ret ?_
     have hr := Option.some.inj hL
     subst hr
     exact RetK.gen1 rfl (ares_tmp (evT fh rfl) ares_nil) ⟨_, ⟨rfl, rfl⟩, hT ▸ hS.only .n⟩
   · replace hL := cond_ff hc hL
     refine WC.skip ?_
     refine BlkK.nrm ?_
     refine SeqK.nrm ?_
     refine WC.region ?_
     refine WO.w gN rfl (av_bin (evT (fs8 rfl (fs4 rfl (fskip rfl e6))) rfl) (evC rfl) abin_addw) ?_
     refine WO.w gN rfl (av_move (evT fh rfl)) ?_
     refine WO.nil ?_
     exact LoopK.nrm (hnext7 _ _ hL ⟨_, _, rfl, hS.only .n, (fs8 rfl (fs4 rfl (fs2 rfl (fskip rfl e3)))), (fs8 rfl (fs4 rfl (fs2 rfl (fskip rfl e4)))), fh⟩)
 · replace hL := cond_ff hc hL
   refine WC.exit ?_
   refine SeqK.exit ?_
   refine LoopK.exit ?_
   refine BlkK.here ?_
   refine SeqK.nrm ?_
   refine WC.seq ?_
   refine WC.region ?_
   refine WO.w gN rfl (av_move (evT (fskip rfl e3) rfl)) ?_
   refine WO.w gN rfl (av_lenStr und9 (evT fh rfl)) ?_
   refine WO.w gN rfl (av_bin (evT fh rfl) (evC rfl) abin_gtr) ?_
   refine WO.w gN rfl (av_move (evT fh rfl)) ?_
   refine WO.gv (GuardIs.yes rfl rfl rfl fh) rfl (fun hg => (av_move (evT (fs4 rfl (fskip rfl e3)) rfl))) ?_
   refine WO.gv (GuardIs.yes rfl rfl rfl (fskip rfl fh)) rfl (fun hg => (av_lenStr und9 (evG fh rfl hg))) ?_
   refine WO.gv (GuardIs.yes rfl rfl rfl (fs2 rfl fh)) rfl (fun hg => (av_bin (evG fh rfl hg) (evC rfl) abin_leq)) ?_
   refine WO.w gN rfl (av_and (evT (fs2 rfl (fskip rfl fh)) rfl) (evGU fh) (evC rfl)) ?_
   refine WO.w gN rfl (av_move (evT fh rfl)) ?_
   refine WO.gsplit (GuardIs.yes rfl rfl rfl fh) (fun hk10 => ?_) (fun hk10 => ?_)
   · replace hL := cond_tt hk10 hL
     obtain ⟨x11, hx11, hL⟩ := bind_some hL
     refine WO.cl (GuardIs.on (GuardIs.yes rfl rfl rfl fh) hk10) rfl (Ent.fn has53 evs_nil) hS .n (fun g' hz hf hO => f53_wf (by rw [hz]; exact hS.hw) hx11) ?_
     rintro _ h13 _ ⟨m12, rfl, rfl⟩ hS
     refine WO.w (GuardIs.on (GuardIs.yes rfl rfl rfl (fskip rfl fh)) hk10) rfl (av_move (evT (fs8 rfl (fs2 rfl (fskip rfl e3))) rfl)) ?_
     obtain ⟨x15, hx15, hL⟩ := bind_some hL
     refine WO.w (GuardIs.on (GuardIs.yes rfl rfl rfl (fs2 rfl fh)) hk10) rfl (av_lkpx (kv := Value.string) (vv := Value.bool) (k := p0) (z := false) key9 und70 zero4 (evT (fskip rfl fh) rfl) (evT fh rfl) (hS.get k0).at_ hx15 (w := .bool x15) rfl) ?_
     refine WO.w (GuardIs.on (GuardIs.yes rfl rfl rfl (fs2 rfl (fskip rfl fh))) hk10) rfl (av_not (evT fh rfl)) ?_
     refine WO.w gN rfl (av_pkT (evT (fs4 rfl fh) rfl) hk10 (evT fh rfl)) ?_
     refine WO.w gN rfl (av_assign (evT fh rfl)) ?_
     refine WO.nil ?_
     refine SeqK.nrm ?_
     refine WC.ret ?_
     have hr := Option.some.inj hL
     subst hr
     exact RetK.gen1 rfl (ares_tmp (evT fh rfl) ares_nil) ⟨_, ⟨rfl, rfl⟩, hT ▸ hS.only .n⟩
   · replace hL := cond_ff hk10 hL
     refine WO.offO (GuardIs.yes rfl rfl rfl fh) hk10 rfl ?_
     refine WO.offO (GuardIs.yes rfl rfl rfl (fskip rfl fh)) hk10 rfl ?_
     refine WO.offO (GuardIs.yes rfl rfl rfl (fs2 rfl fh)) hk10 rfl ?_
     refine WO.offO (GuardIs.yes rfl rfl rfl (fs2 rfl (fskip rfl fh))) hk10 rfl ?_
     refine WO.w gN rfl (av_pkF (evT (fs4 rfl fh) rfl) hk10 (evC rfl)) ?_
     refine WO.w gN rfl (av_assign (evT fh rfl)) ?_
     refine WO.nil ?_
     refine SeqK.nrm ?_
     refine WC.ret ?_
     have hr := Option.some.inj hL
     subst hr
     exact RetK.gen1 rfl (ares_tmp (evT fh rfl) ares_nil) ⟨_, ⟨rfl, rfl⟩, hT ▸ hS.only .n⟩
theorem f15_ok {F : Nat} {h : H} {p0 : ByteArray}  {r : Bool}  (hL : f15L F p0 = some r) : Pure XX 15 #[.string p0] h (.bool r) :=
 WR.pureC rfl (f15_wf (Nat.le_refl _)  hL)
theorem f13_wf {F : Nat} {wm : Nat} {h : H} {p0 : (List ByteArray)} {pa0_0 : Option Addr} {pc0_0 : Nat} {r : Bool} (hwm : wm ≤ h.size) (hsp0_0 : Sl rStr wm h pa0_0 pc0_0 p0) (hL : f13L F p0 = some r) :
    WR XX 13 #[.slice pa0_0 p0.length pc0_0] wm h (CP (fun (v : Value) (Gb : List (Ast wm)) => v = .bool r ∧ Gb = []) [] h) := by
 refine WF.begin (args := [_]) (fn := Tryz.f13) (by kernel_rfl) (by exact rfl) Tryz.ntmps13 (by simp) ?_
 simp only [frameOf_cons, frameOf_nil, Nat.reduceAdd]
 obtain ⟨T, hT, hS⟩ : ∃ T, T = Fps (wm := wm) [] ∧ Sp wm T h [] h := ⟨_, rfl, Sp.start hwm Hold.nil⟩
 unfold f13L at hL
 refine WC.seq ?_
 refine WC.region ?_
 refine WO.w gN rfl (av_assign (evC rfl)) ?_
 refine WO.nil ?_
 refine SeqK.nrm ?_
 refine WC.seq ?_
 refine WC.seq ?_
 refine WC.region ?_
 refine WO.w gN rfl (av_assign (evC rfl)) ?_
 refine WO.nil ?_
 refine SeqK.nrm ?_
 refine WC.block ?_
 refine WC.loop (WL.lift hL (fun (v4 : Int) (s : Fs) => ∃ (fr2 : Fr) (h1 : H), s = ⟨fr2, [], h1, none⟩ ∧ Sp wm T h [] h1 ∧ fr2.at 0 = .slice pa0_0 p0.length pc0_0 ∧ fr2.at 3 = .int .i64 v4) ⟨_, _, rfl, hS.only .n, (fs2 rfl fh), fh⟩ ?_)
 clear hL hS
 rintro next6 v4 s hnext6 hL ⟨fr2, h1, rfl, hS, e3, e5⟩
 dsimp only [f13_b0] at hL
 refine WC.seq ?_
 refine WC.seq ?_
 refine WC.region ?_
 refine WO.w gN rfl (av_move (evT e5 rfl)) ?_
 refine WO.w gN rfl (av_move (evT (fskip rfl e3) rfl)) ?_
 refine WO.w gN rfl (av_lenO und22 (evT fh rfl) rfl) ?_
 refine WO.w gN rfl (av_bin (evT (fs2 rfl fh) rfl) (evT fh rfl) abin_lss) ?_
 refine WO.w gN rfl (av_move (evT fh rfl)) ?_
 refine WO.gv (GuardIs.yes rfl rfl rfl fh) rfl (fun hg => (av_move (evT (fs4 rfl (fskip rfl e5)) rfl))) ?_
 refine WO.gv (GuardIs.yes rfl rfl rfl (fskip rfl fh)) rfl (fun hg => (av_bin (evG fh rfl hg) (evC rfl) abin_lss)) ?_
 refine WO.w gN rfl (av_and (evT (fs2 rfl fh) rfl) (evGU fh) (evC rfl)) ?_
 refine WO.nil ?_
 refine SeqK.nrm ?_
 refine WC.condN (evT fh rfl) (fun hc => ?_) (fun hc => ?_)
 · replace hL := cond_tt hc hL
   refine WC.skip ?_
   refine SeqK.nrm ?_
   refine WC.seq ?_
   refine WC.block ?_
   refine WC.seq ?_
   refine WC.region ?_
   refine WO.w gN rfl (av_move (evT (fs8 rfl e3) rfl)) ?_
   refine WO.w gN rfl (av_move (evT (fs8 rfl (fskip rfl e5)) rfl)) ?_
   obtain ⟨x7, hx7, hL⟩ := bind_some hL
   obtain ⟨b8, o9, _, hab8, hAb8, hBb8, hFb8⟩ := Sl.at_ hsp0_0 hx7
   refine WO.w gN rfl (av_ixn und22 size9 (evT (fskip rfl fh) rfl) (evT fh rfl) rfl hab8 hx7) ?_
   refine WO.w gN rfl (av_ld agg9 (evT fh rfl) (At.fz hS.fz hBb8 hAb8) (j := 0) rfl (v := .string x7) rfl) ?_
   refine WO.w gN rfl (av_lenStr und9 (evT fh rfl)) ?_
   refine WO.w gN rfl (av_bin (evT fh rfl) (evC rfl) abin_gtr) ?_
   refine WO.nil ?_
   refine SeqK.nrm ?_
   refine WC.condN (evT fh rfl) (fun hc => ?_) (fun hc => ?_)
   · replace hL := cond_tt hc hL
     refine WC.seq ?_
     refine WC.region ?_
     refine WO.w gN rfl (av_assign (evC rfl)) ?_
     refine WO.nil ?_
     refine SeqK.nrm ?_
     refine WC.ret ?_
     refine BlkK.ret ?_
     refine SeqK.ret ?_
     refine LoopK.ret ?_
     refine BlkK.ret ?_
     refine SeqK.ret ?_
     have hr := Option.some.inj hL
     subst hr
     exact RetK.gen1 rfl (ares_tmp (evT fh rfl) ares_nil) ⟨_, ⟨rfl, rfl⟩, hT ▸ hS.only .n⟩
   · replace hL := cond_ff hc hL
     refine WC.skip ?_
     refine BlkK.nrm ?_
     refine SeqK.nrm ?_
     refine WC.region ?_
     refine WO.w gN rfl (av_move (evT (fs8 rfl (fs4 rfl (fs2 rfl e5))) rfl)) ?_
     refine WO.w gN rfl (av_bin (evT fh rfl) (evC rfl) abin_addw) ?_
     refine WO.w gN rfl (av_assign (evT fh rfl)) ?_
     refine WO.nil ?_
     exact LoopK.nrm (hnext6 _ _ hL ⟨_, _, rfl, hS.only .n, (fs8 rfl (fs8 rfl (fskip rfl e3))), fh⟩)
 · replace hL := cond_ff hc hL
   refine WC.exit ?_
   refine SeqK.exit ?_
   refine LoopK.exit ?_
   refine BlkK.here ?_
   refine SeqK.nrm ?_
   refine WC.seq ?_
   refine WC.region ?_
   refine WO.w gN rfl (av_move (evT (fs8 rfl e3) rfl)) ?_
   refine WO.w gN rfl (av_lenO und22 (evT fh rfl) rfl) ?_
   refine WO.w gN rfl (av_bin (evT fh rfl) (evC rfl) abin_leq) ?_
   refine WO.w gN rfl (av_assign (evT fh rfl)) ?_
   refine WO.nil ?_
   refine SeqK.nrm ?_
   refine WC.ret ?_
   have hr := Option.some.inj hL
   subst hr
   exact RetK.gen1 rfl (ares_tmp (evT fh rfl) ares_nil) ⟨_, ⟨rfl, rfl⟩, hT ▸ hS.only .n⟩
theorem f13_ok {F : Nat} {h : H} {p0 : (List ByteArray)} {pa0_0 : Option Addr} {pc0_0 : Nat} {r : Bool} (hsp0_0 : Sl rStr h.size h pa0_0 pc0_0 p0) (hL : f13L F p0 = some r) : Pure XX 13 #[.slice pa0_0 p0.length pc0_0] h (.bool r) :=
 WR.pureC rfl (f13_wf (Nat.le_refl _) hsp0_0 hL)
theorem f56_wf {F : Nat} {wm : Nat} {h : H} {p0 : Int}  {r : ByteArray} (hwm : wm ≤ h.size)  (hL : f56L F p0 = some r) :
    WR XX 56 #[.int .i64 p0] wm h (CP (fun (v : Value) (Gb : List (Ast wm)) => v = .string r ∧ Gb = []) [] h) := by
 refine WF.begin (args := [_]) (fn := Tryz.f56) (by kernel_rfl) (by exact rfl) Tryz.ntmps56 (by simp) ?_
 simp only [frameOf_cons, frameOf_nil, Nat.reduceAdd]
 obtain ⟨T, hT, hS⟩ : ∃ T, T = Fps (wm := wm) [] ∧ Sp wm T h [] h := ⟨_, rfl, Sp.start hwm Hold.nil⟩
 unfold f56L at hL
 refine WC.seq ?_
 refine WC.region ?_
 refine WO.w gN rfl (av_assign (evC rfl)) ?_
 refine WO.nil ?_
 refine SeqK.nrm ?_
 refine WC.seq ?_
 refine WC.region ?_
 refine WO.w gN rfl (av_assign (evC rfl)) ?_
 refine WO.nil ?_
 refine SeqK.nrm ?_
 refine WC.seq ?_
 refine WC.block ?_
 refine WC.loop (WL.lift hL (fun (p : Int × ByteArray) (s : Fs) => match p with | (v3, v5) => ∃ (fr2 : Fr) (h1 : H), s = ⟨fr2, [], h1, none⟩ ∧ Sp wm T h [] h1 ∧ fr2.at 0 = .int .i64 v3 ∧ fr2.at 3 = .string v5) ⟨_, _, rfl, hS.only .n, (fs2 rfl fh), fh⟩ ?_)
 clear hL hS
 rintro next7 ⟨v3, v5⟩ s hnext7 hL ⟨fr2, h1, rfl, hS, e4, e6⟩
 dsimp only [f56_b0] at hL
 refine WC.seq ?_
 refine WC.seq ?_
 refine WC.region ?_
 refine WO.w gN rfl (av_move (evT e4 rfl)) ?_
 refine WO.w gN rfl (av_bin (evT fh rfl) (evC rfl) abin_gtr) ?_
 refine WO.nil ?_
 refine SeqK.nrm ?_
 refine WC.condN (evT fh rfl) (fun hc => ?_) (fun hc => ?_)
 · replace hL := cond_tt hc hL
   refine WC.skip ?_
   refine SeqK.nrm ?_
   refine WC.block ?_
   refine WC.seq ?_
   refine WC.region ?_
   refine WO.w gN rfl (av_move (evT (fs2 rfl e4) rfl)) ?_
   refine WO.w gN rfl (av_bin (evT fh rfl) (evC rfl) abin_subw) ?_
   refine WO.w gN rfl (av_assign (evT fh rfl)) ?_
   refine WO.nil ?_
   refine SeqK.nrm ?_
   refine WC.seq ?_
   refine WC.region ?_
   refine WO.w gN rfl (av_move (evT fh rfl)) ?_
   obtain ⟨x8, hx8, hL⟩ := bind_some hL
   refine WO.w gN rfl (av_bin (evT fh rfl) (evC rfl) (abin_remw hx8)) ?_
   refine WO.w gN rfl (av_bin (evC rfl) (evT fh rfl) abin_addw) ?_
   refine WO.w gN rfl (av_cvt und3 und5 (evT fh rfl)) ?_
   refine WO.hn gN rfl (s_bs (e := (rInt .u8)) hS und138 size5 zero5 rfl rfl rfl (evp_cons (evT fh rfl) evp_nil) rfl [((), IntKind.wrap .u8 (w64 (97 + x8)))] rfl (xs := [IntKind.wrap .u8 (w64 (97 + x8))]) rfl (by intro q hq; simp only [List.mem_cons, List.not_mem_nil, or_false] at hq; subst hq; exact trivial) rfl) ?_
   rintro _ h10 ⟨b9, eb9, rfl, hS⟩
   obtain ⟨z11, hz11, hL⟩ := bind_some hL
   refine WO.w gN rfl (av_cvtStr und138 und5 und9 (evT fh rfl) (hS.on k0) (hS.osrc k0) hz11) ?_
   refine WO.w gN rfl (av_move (evT (fs8 rfl (fs2 rfl (fskip rfl e6))) rfl)) ?_
   obtain ⟨z12, hz12, hL⟩ := bind_some hL
   refine WO.w gN rfl (av_bin (evT (fskip rfl fh) rfl) (evT fh rfl) (abin_addStr hz12)) ?_
   refine WO.w gN rfl (av_assign (evT fh rfl)) ?_
   refine WO.nil ?_
   refine SeqK.nrm ?_
   refine WC.region ?_
   refine WO.w gN rfl (av_move (evT (fs8 rfl (fskip rfl fh)) rfl)) ?_
   obtain ⟨x13, hx13, hL⟩ := bind_some hL
   refine WO.w gN rfl (av_bin (evT fh rfl) (evC rfl) (abin_quow hx13)) ?_
   refine WO.w gN rfl (av_assign (evT fh rfl)) ?_
   refine WO.nil ?_
   refine BlkK.nrm ?_
   exact LoopK.nrm (hnext7 _ _ hL ⟨_, _, rfl, hS.only .n, fh, (fs2 rfl (fskip rfl fh))⟩)
 · replace hL := cond_ff hc hL
   refine WC.exit ?_
   refine SeqK.exit ?_
   refine LoopK.exit ?_
   refine BlkK.here ?_
   refine SeqK.nrm ?_
   refine WC.seq ?_
   refine WC.region ?_
   refine WO.w gN rfl (av_move (evT (fs2 rfl e6) rfl)) ?_
   refine WO.w gN rfl (av_assign (evT fh rfl)) ?_
   refine WO.nil ?_
   refine SeqK.nrm ?_
   refine WC.ret ?_
   have hr := Option.some.inj hL
   subst hr
   exact RetK.gen1 rfl (ares_tmp (evT fh rfl) ares_nil) ⟨_, ⟨rfl, rfl⟩, hT ▸ hS.only .n⟩
theorem f56_ok {F : Nat} {h : H} {p0 : Int}  {r : ByteArray}  (hL : f56L F p0 = some r) : Pure XX 56 #[.int .i64 p0] h (.string r) :=
 WR.pureC rfl (f56_wf (Nat.le_refl _)  hL)
theorem f54_wf {F : Nat} {wm : Nat} {h : H} {p0 : (List (ByteArray × Bool))} {pm0_0 : Option Nat} {r : ByteArray} (hwm : wm ≤ h.size) (hsp0_0 : MapS Value.string Value.bool wm h pm0_0 p0) (hL : f54L F p0 = some r) :
    WR XX 54 #[.map pm0_0] wm h (CP (fun (v : Value) (Gb : List (Ast wm)) => v = .string r ∧ Gb = []) [] h) := by
 refine WF.beginL (args := [_]) (fn := Tryz.f54) (by kernel_rfl) (by exact rfl) Tryz.ntmps54 (by simp) ?_
 simp only [frameOf_cons, frameOf_nil, Nat.reduceAdd]
 obtain ⟨T, hT, hS⟩ : ∃ T, T = Fps (wm := wm) [] ∧ Sp wm T h [] h := ⟨_, rfl, Sp.start hwm Hold.nil⟩
 unfold f54L at hL
 refine WC.seq ?_
 refine WC.region ?_
 refine WO.hn gN rfl (s_box hS (evT fh rfl) (vs := [.map pm0_0]) rfl) ?_
 rintro _ h2 ⟨b1, eb1, rfl, hS⟩
 refine WO.hn gN rfl (s_alc hS zero9 (vs := [.string (⟨#[]⟩ : ByteArray)]) rfl) ?_
 rintro _ h4 ⟨b3, eb3, rfl, hS⟩
 refine WO.nil ?_
 refine SeqK.nrm ?_
 refine WC.seq ?_
 refine WC.block ?_
 refine WC.rangeS (first := []) (cap := []) hS evFn has99 ?_
 intro h5 l6 df7 LO8 hLO9 hS
 refine WR.inlJ (r := r) (fun (p : ByteArray × Bool) (v : Value) (h10 : H) => match p with | (v12, sp13) => v = .tuple [].toArray ∧ Sp wm T h [bx wm b1 [.map pm0_0], bx wm b3 [.string v12], ob wm l6 (lst sp13 Code.ret LO8), ob wm df7 .deferred] h10) (f54_j0) ?_ (WF.begin (args := [_]) (fn := Tryz.f99) (by kernel_rfl) (by exact rfl) Tryz.ntmps99 (by simp) ?_)
 · clear hL hS
   rintro ⟨v12, sp13⟩ v h10 hL ⟨rfl, hS⟩
   dsimp only [f54_j0] at hL
   rcases bool_cases sp13 with hc | hc
   · replace hL := cond_tt hc hL
     rw [hc] at hS
     refine RgS.stop (c := Code.ret) hLO9 hS k2 ?_
     rintro h15 hS
     refine WC.ret ?_
     refine BlkK.ret ?_
     refine SeqK.ret ?_
     refine RetL.colS hS k2 ?_
     rintro h16 hS
     have hr := Option.some.inj hL
     subst hr
     exact RetL.gen rfl (ares_cell fh (aload_at1 agg9 (hS.atB k1) (j := 0) rfl (v := .string v12) rfl) ares_nil) rfl ⟨_, ⟨rfl, rfl⟩, hT ▸ hS.only .n⟩
   · replace hL := cond_ff hc hL
     rw [hc] at hS
     refine RgS.sp hLO9 hS k2 ?_
     rintro h17 hS
     refine BlkK.nrm ?_
     refine SeqK.nrm ?_
     refine WC.seq ?_
     refine WC.region ?_
     refine WO.hu gN (s_st hS k1 size9 (evT fh rfl) (evC rfl) (vs := [.string (⟨#[]⟩ : ByteArray)]) rfl rfl rfl rfl (cs' := [.string (⟨#[]⟩ : ByteArray)]) rfl) ?_
     rintro h18 hS
     refine WO.nil ?_
     refine SeqK.nrm ?_
     refine WC.ret ?_
     refine RetL.colS hS k2 ?_
     rintro h19 hS
     have hr := Option.some.inj hL
     subst hr
     exact RetL.gen rfl (ares_cell fh (aload_at1 agg9 (hS.atB k0) (j := 0) rfl (v := .string (⟨#[]⟩ : ByteArray)) rfl) ares_nil) rfl ⟨_, ⟨rfl, rfl⟩, hT ▸ hS.only .n⟩
 · skip
   simp only [frameOf_cons, frameOf_nil, Nat.reduceAdd]
   refine WC.seq ?_
   refine WC.region ?_
   refine WO.w gN rfl (av_assign (evC rfl)) ?_
   refine WO.nil ?_
   refine SeqK.nrm ?_
   refine WC.block ?_
   refine WC.loop (WL.lift hL (fun (p : Int × ByteArray × Bool) (s : Fs) => match p with | (v23, v25, sp26) => ∃ (fr21 : Fr) (h20 : H), s = ⟨fr21, [], h20, none⟩ ∧ Sp wm T h [bx wm b1 [.map pm0_0], bx wm b3 [.string v25], ob wm l6 (lst sp26 Code.ret LO8), ob wm df7 .deferred] h20 ∧ fr21.at 0 = .func (.yield l6) #[] #[] ∧ fr21.at 2 = .int .i64 v23) ⟨_, _, rfl, hS.only (.c k3 (.c k2 (.c k0 (.c k0 .n)))), (fskip rfl fh), fh⟩ ?_)
   clear hL hS
   rintro next27 ⟨v23, v25, sp26⟩ s hnext27 hL ⟨fr21, h20, rfl, hS, e22, e24⟩
   dsimp only [f54_b0] at hL
   refine WC.seq ?_
   refine WC.block ?_
   refine WC.seq ?_
   refine WC.region ?_
   refine WO.w gN rfl (av_assign (evC rfl)) ?_
   refine WO.nil ?_
   refine SeqK.nrm ?_
   refine WC.seq ?_
   refine WC.seq ?_
   refine WC.region ?_
   refine WO.w gN rfl (av_move (evT (fskip rfl e24) rfl)) ?_
   refine WO.w gN rfl (av_assign (evT fh rfl)) ?_
   refine WO.nil ?_
   refine SeqK.nrm ?_
   refine WC.block ?_
   have hS := hS.nil (e := (rInt .u8))
   refine WC.loop (WL.lift hL (fun (p : (List Int) × Int) (s : Fs) => match p with | (v32, v37) => ∃ (fr29 : Fr) (h28 : H) (a33 : Option Addr) (c34 : Nat) (n35 : Nat), s = ⟨fr29, [], h28, none⟩ ∧ Sp wm T h [ow wm (rInt .u8) a33 n35 c34 v32, bx wm b1 [.map pm0_0], bx wm b3 [.string v25], ob wm l6 (lst sp26 Code.ret LO8), ob wm df7 .deferred] h28 ∧ fr29.at 0 = .func (.yield l6) #[] #[] ∧ fr29.at 2 = .int .i64 v23 ∧ fr29.at 3 = .slice a33 n35 c34 ∧ fr29.at 4 = .int .i64 v37) ⟨_, _, none, 0, 0, rfl, hS.only (.c k0 (.c k0 (.c k0 (.c k0 (.c k0 .n))))), (fs2 rfl (fskip rfl e22)), (fs2 rfl (fskip rfl e24)), (fs2 rfl fh), fh⟩ ?_)
   clear hL hS
   rintro next39 ⟨v32, v37⟩ s hnext39 hL ⟨fr29, h28, a33, c34, n35, rfl, hS, e30, e31, e36, e38⟩
   obtain rfl := hS.on k0
   dsimp only [f54_b1] at hL
   refine WC.seq ?_
   refine WC.seq ?_
   refine WC.region ?_
   refine WO.w gN rfl (av_move (evT e38 rfl)) ?_
   refine WO.w gN rfl (av_bin (evT fh rfl) (evC rfl) abin_gtr) ?_
   refine WO.nil ?_
   refine SeqK.nrm ?_
   refine WC.condN (evT fh rfl) (fun hc => ?_) (fun hc => ?_)
   · replace hL := cond_tt hc hL
     refine WC.skip ?_
     refine SeqK.nrm ?_
     refine WC.seq ?_
     refine WC.block ?_
     refine WC.region ?_
     refine WO.w gN rfl (av_move (evT (fs2 rfl e38) rfl)) ?_
     refine WO.w gN rfl (av_bin (evT fh rfl) (evC rfl) abin_subw) ?_
     obtain ⟨x40, hx40, hL⟩ := bind_some hL
     refine WO.w gN rfl (av_bin (evT fh rfl) (evC rfl) (abin_remw hx40)) ?_
     refine WO.w gN rfl (av_bin (evC rfl) (evT fh rfl) abin_addw) ?_
     refine WO.w gN rfl (av_cvt und3 und5 (evT fh rfl)) ?_
     refine WO.hn gN rfl (s_bs (e := (rInt .u8)) hS und138 size5 zero5 rfl rfl rfl (evp_cons (evT fh rfl) evp_nil) rfl [((), IntKind.wrap .u8 (w64 (97 + x40)))] rfl (xs := [IntKind.wrap .u8 (w64 (97 + x40))]) rfl (by intro q hq; simp only [List.mem_cons, List.not_mem_nil, or_false] at hq; subst hq; exact trivial) rfl) ?_
     rintro _ h42 ⟨b41, eb41, rfl, hS⟩
     refine WO.w gN rfl (av_move (evT (fs8 rfl e36) rfl)) ?_
     obtain ⟨z43, hz43, hL⟩ := bind_some hL
     refine WO.hv gN rfl (s_ap (e := (rInt .u8)) hS k0 app138_138 (evT (fskip rfl fh) rfl) (evT fh rfl) (hS.osrc k1) rfl hz43) ?_
     rintro _ h46 ⟨a44, c45, rfl, hS⟩
     refine WO.w gN rfl (av_assign (evT fh rfl)) ?_
     refine WO.nil ?_
     refine BlkK.nrm ?_
     refine SeqK.nrm ?_
     refine WC.region ?_
     refine WO.w gN rfl (av_move (evT (fs8 rfl (fs2 rfl (fskip rfl e38))) rfl)) ?_
     refine WO.w gN rfl (av_bin (evT fh rfl) (evC rfl) abin_subw) ?_
     obtain ⟨x47, hx47, hL⟩ := bind_some hL
     refine WO.w gN rfl (av_bin (evT fh rfl) (evC rfl) (abin_quow hx47)) ?_
     refine WO.w gN rfl (av_assign (evT fh rfl)) ?_
     refine WO.nil ?_
     exact LoopK.nrm (hnext39 _ _ hL ⟨_, _, a44, c45, z43.length, rfl, hS.only (.c k0 (.c k1 (.c k1 (.c k1 (.c k1 .n))))), (fs8 rfl (fs4 rfl (fs2 rfl (fskip rfl e30)))), (fs8 rfl (fs4 rfl (fs2 rfl (fskip rfl e31)))), (fs4 rfl fh), fh⟩)
   · replace hL := cond_ff hc hL
     refine WC.exit ?_
     refine SeqK.exit ?_
     refine LoopK.exit ?_
     refine BlkK.here ?_
     refine SeqK.nrm ?_
     refine WC.seq ?_
     refine WC.region ?_
     refine WO.w gN rfl (av_move (evT (fs2 rfl e30) rfl)) ?_
     refine WO.w gN rfl (av_move (evT (fs2 rfl (fskip rfl e36)) rfl)) ?_
     obtain ⟨z48, hz48, hL⟩ := bind_some hL
     refine WO.w gN rfl (av_cvtStr und138 und5 und9 (evT fh rfl) rfl (hS.osrc k0) hz48) ?_
     obtain ⟨hc49, hL⟩ := cond_no hL
     rw [hc49] at hS
     refine WO.yldS gN rfl (evT (fs2 rfl fh) rfl) (evs_cons (evT fh rfl) evs_nil) hS k3 hLO9 rfl rfl ?_
     refine WC.region ?_
     refine WO.w gN rfl (av_assign (evT fh rfl)) ?_
     refine WO.nil ?_
     refine AsS.sp hLO9 hS k3 ?_
     rintro h50 hS
     refine WC.block ?_
     refine WC.seq ?_
     refine WC.region ?_
     refine WO.w gN rfl (av_move (evT fh rfl)) ?_
     obtain ⟨x51, hx51, hL⟩ := bind_some hL
     refine WO.cp gN rfl (Ent.fn has15 (evs_cons (evT fh rfl) evs_nil)) (f15_ok hx51) ?_
     refine WO.w gN rfl (av_move (evT fh rfl)) ?_
     refine WO.gv (GuardIs.yes rfl rfl rfl fh) rfl (fun hg => (av_ld agg70 (evT (fs4 rfl (fs2 rfl fh)) rfl) (hS.atB k2) (j := 0) rfl (v := .map pm0_0) rfl)) ?_
     refine WO.gv (GuardIs.yes rfl rfl rfl (fskip rfl fh)) rfl (fun hg => (av_move (evT (fs4 rfl fh) rfl))) ?_
     obtain ⟨x52, hx52, hL⟩ := gd_some hL
     refine WO.gv (GuardIs.yes rfl rfl rfl (fs2 rfl fh)) rfl (fun hg => (av_lkpx (kv := Value.string) (vv := Value.bool) (k := z48) (z := false) key9 und70 zero4 (evG (fskip rfl fh) rfl hg) (evG fh rfl hg) (hS.ms hsp0_0).at_ (hx52 hg) (w := .bool x52) rfl)) ?_
     refine WO.gv (GuardIs.yes rfl rfl rfl (fs2 rfl (fskip rfl fh))) rfl (fun hg => (av_not (evG fh rfl hg))) ?_
     refine WO.w gN rfl (av_and (evT (fs4 rfl fh) rfl) (evGU fh) (evC rfl)) ?_
     refine WO.nil ?_
     refine SeqK.nrm ?_
     refine WC.condN (evT fh rfl) (fun hc => ?_) (fun hc => ?_)
     · replace hL := cond_tt hc hL
       refine WC.seq ?_
       refine WC.region ?_
       refine WO.w gN rfl (av_move (evT (fs8 rfl fh) rfl)) ?_
       refine WO.hu gN (s_st hS k3 size9 (evT (fs8 rfl (fs2 rfl (fskip rfl fh))) rfl) (evT fh rfl) (vs := [.string z48]) rfl rfl rfl rfl (cs' := [.string z48]) rfl) ?_
       rintro h53 hS
       refine WO.nil ?_
       refine SeqK.nrm ?_
       refine WC.ret ?_
       refine BlkK.ret ?_
       refine BdS.stop .ret hLO9 hS k1 ?_
       rintro h54 hS
       refine WO.w gN rfl (av_not (evT fh rfl)) ?_
       refine WO.nil ?_
       refine SeqK.nrm ?_
       refine WC.condN (evT fh rfl) (fun hc => ?_) (fun hc => ?_)
       · replace hL := cond_tt hc hL
         refine WC.ret ?_
         refine BlkK.ret ?_
         refine SeqK.ret ?_
         refine LoopK.ret ?_
         refine BlkK.ret ?_
         exact RetK.gen (vs := []) rfl ares_nil rfl ⟨_, hL, ⟨rfl, hS.only (.c k3 (.c k1 (.c k0 (.c k1 .n))))⟩⟩
       · replace hL := cond_ff hc hL
         refine WC.skip ?_
         refine BlkK.nrm ?_
         refine SeqK.nrm ?_
         refine WC.region ?_
         refine WO.w gN rfl (av_move (evT (fs4 rfl (fs2 rfl (fskip rfl e31))) rfl)) ?_
         refine WO.w gN rfl (av_bin (evT fh rfl) (evC rfl) abin_addw) ?_
         refine WO.w gN rfl (av_assign (evT fh rfl)) ?_
         refine WO.nil ?_
         exact LoopK.nrm (hnext27 _ _ hL ⟨_, _, rfl, hS.only (.c k3 (.c k1 (.c k0 (.c k1 .n)))), (fs8 rfl (fs2 rfl e30)), fh⟩)
     · replace hL := cond_ff hc hL
       refine WC.skip ?_
       refine BlkK.nrm ?_
       refine BdS.sp hLO9 hS k0 ?_
       rintro h55 hS
       refine WO.w gN rfl (av_not (evT fh rfl)) ?_
       refine WO.nil ?_
       refine SeqK.nrm ?_
       refine WC.condN (evT fh rfl) (fun hc => ?_) (fun hc => ?_)
       · replace hL := cond_tt hc hL
         refine WC.ret ?_
         refine BlkK.ret ?_
         refine SeqK.ret ?_
         refine LoopK.ret ?_
         refine BlkK.ret ?_
         exact RetK.gen (vs := []) rfl ares_nil rfl ⟨_, hL, ⟨rfl, hS.only (.c k2 (.c k2 (.c k0 (.c k1 .n))))⟩⟩
       · replace hL := cond_ff hc hL
         refine WC.skip ?_
         refine BlkK.nrm ?_
         refine SeqK.nrm ?_
         refine WC.region ?_
         refine WO.w gN rfl (av_move (evT (fs4 rfl (fs2 rfl (fskip rfl e31))) rfl)) ?_
         refine WO.w gN rfl (av_bin (evT fh rfl) (evC rfl) abin_addw) ?_
         refine WO.w gN rfl (av_assign (evT fh rfl)) ?_
         refine WO.nil ?_
         exact LoopK.nrm (hnext27 _ _ hL ⟨_, _, rfl, hS.only (.c k2 (.c k2 (.c k0 (.c k1 .n)))), (fs8 rfl (fs2 rfl e30)), fh⟩)
theorem f54_ok {F : Nat} {h : H} {p0 : (List (ByteArray × Bool))} {pm0_0 : Option Nat} {r : ByteArray} (hsp0_0 : MapS Value.string Value.bool h.size h pm0_0 p0) (hL : f54L F p0 = some r) : Pure XX 54 #[.map pm0_0] h (.string r) :=
 WR.pureC rfl (f54_wf (Nat.le_refl _) hsp0_0 hL)
end Go.Proofs.YtbnepjakjmnadaaGreat
end
end
section
set_option linter.unusedVariables false
set_option linter.unusedSimpArgs false
namespace Go.Proofs.YtbnepjakjmnadaaGreat
open Go.Lf
def f17L (F : Nat) (p0 : (List ByteArray)) : Option ByteArray :=
  (f55L F p0).bind fun x1 => (f54L F x1).bind fun x5 => some x5
def f18_b0 (F : Nat) (p0 : (List ByteArray)) : Int → (Int → Option ByteArray) → Option ByteArray := fun v4 next6 =>
  (f56L F v4).bind fun x7 => (f16L F x7).bind fun x8 => (gd x8 (f36L F p0 x7) default).bind fun x9 => (bif (x8 && (!x9)) then some x7 else next6 (w64 (v4 + 1)))
def f18L (F : Nat) (p0 : (List ByteArray)) : Option ByteArray :=
  loop F (f18_b0 F p0) 1
end Go.Proofs.YtbnepjakjmnadaaGreat
end
section
set_option linter.unusedVariables false
set_option linter.unusedSimpArgs false
set_option maxRecDepth 20000
noncomputable section
namespace Go.Proofs.YtbnepjakjmnadaaGreat
open Go.Abs Go.Lf
theorem f17_wf {F : Nat} {wm : Nat} {h : H} {p0 : (List ByteArray)} {pa0_0 : Option Addr} {pc0_0 : Nat} {r : ByteArray} (hwm : wm ≤ h.size) (hsp0_0 : Sl rStr wm h pa0_0 pc0_0 p0) (hL : f17L F p0 = some r) :
    WR XX 17 #[.slice pa0_0 p0.length pc0_0] wm h (CP (fun (v : Value) (Gb : List (Ast wm)) => v = .string r ∧ Gb = []) [] h) := by
 refine WF.begin (args := [_]) (fn := Tryz.f17) (by kernel_rfl) (by exact rfl) Tryz.ntmps17 (by simp) ?_
 simp only [frameOf_cons, frameOf_nil, Nat.reduceAdd]
 obtain ⟨T, hT, hS⟩ : ∃ T, T = Fps (wm := wm) [] ∧ Sp wm T h [] h := ⟨_, rfl, Sp.start hwm Hold.nil⟩
 unfold f17L at hL
 refine WC.seq ?_
 refine WC.region ?_
 refine WO.w gN rfl (av_assign (evC rfl)) ?_
 refine WO.nil ?_
 refine SeqK.nrm ?_
 refine WC.seq ?_
 refine WC.region ?_
 refine WO.w gN rfl (av_move (evT (fskip rfl fh) rfl)) ?_
 obtain ⟨x1, hx1, hL⟩ := bind_some hL
 refine WO.cl gN rfl (Ent.fn has55 (evs_cons (evT fh rfl) evs_nil)) hS .n (fun g' hz hf hO => f55_wf (by rw [hz]; exact hS.hw) ((hS.sl hsp0_0).mono hf) hx1) ?_
 rintro _ h3 _ ⟨m2, rfl, rfl⟩ hS
 obtain ⟨x5, hx5, hL⟩ := bind_some hL
 refine WO.cp gN rfl (Ent.fn has54 (evs_cons (evT fh rfl) evs_nil)) (f54_ok (hS.mrd k0) hx5) ?_
 refine WO.w gN rfl (av_assign (evT fh rfl)) ?_
 refine WO.nil ?_
 refine SeqK.nrm ?_
 refine WC.ret ?_
 have hr := Option.some.inj hL
 subst hr
 exact RetK.gen1 rfl (ares_tmp (evT fh rfl) ares_nil) ⟨_, ⟨rfl, rfl⟩, hT ▸ hS.only .n⟩
theorem f17_ok {F : Nat} {h : H} {p0 : (List ByteArray)} {pa0_0 : Option Addr} {pc0_0 : Nat} {r : ByteArray} (hsp0_0 : Sl rStr h.size h pa0_0 pc0_0 p0) (hL : f17L F p0 = some r) : Pure XX 17 #[.slice pa0_0 p0.length pc0_0] h (.string r) :=
 WR.pureC rfl (f17_wf (Nat.le_refl _) hsp0_0 hL)
theorem f18_wf {F : Nat} {wm : Nat} {h : H} {p0 : (List ByteArray)} {pa0_0 : Option Addr} {pc0_0 : Nat} {r : ByteArray} (hwm : wm ≤ h.size) (hsp0_0 : Sl rStr wm h pa0_0 pc0_0 p0) (hL : f18L F p0 = some r) :
    WR XX 18 #[.slice pa0_0 p0.length pc0_0] wm h (CP (fun (v : Value) (Gb : List (Ast wm)) => v = .string r ∧ Gb = []) [] h) := by
 refine WF.begin (args := [_]) (fn := Tryz.f18) (by kernel_rfl) (by exact rfl) Tryz.ntmps18 (by simp) ?_
 simp only [frameOf_cons, frameOf_nil, Nat.reduceAdd]
 obtain ⟨T, hT, hS⟩ : ∃ T, T = Fps (wm := wm) [] ∧ Sp wm T h [] h := ⟨_, rfl, Sp.start hwm Hold.nil⟩
 unfold f18L at hL
 refine WC.seq ?_
 refine WC.region ?_
 refine WO.w gN rfl (av_assign (evC rfl)) ?_
 refine WO.nil ?_
 refine SeqK.nrm ?_
 refine WC.seq ?_
 refine WC.region ?_
 refine WO.w gN rfl (av_assign (evC rfl)) ?_
 refine WO.nil ?_
 refine SeqK.nrm ?_
 refine WC.block ?_
 refine WC.loop (WL.lift hL (fun (v4 : Int) (s : Fs) => ∃ (fr2 : Fr) (h1 : H), s = ⟨fr2, [], h1, none⟩ ∧ Sp wm T h [] h1 ∧ fr2.at 0 = .slice pa0_0 p0.length pc0_0 ∧ fr2.at 3 = .int .i64 v4) ⟨_, _, rfl, hS.only .n, (fs2 rfl fh), fh⟩ ?_)
 clear hL hS
 rintro next6 v4 s hnext6 hL ⟨fr2, h1, rfl, hS, e3, e5⟩
 dsimp only [f18_b0] at hL
 refine WC.seq ?_
 refine WC.block ?_
 refine WC.seq ?_
 refine WC.region ?_
 refine WO.w gN rfl (av_move (evT e5 rfl)) ?_
 obtain ⟨x7, hx7, hL⟩ := bind_some hL
 refine WO.cp gN rfl (Ent.fn has56 (evs_cons (evT fh rfl) evs_nil)) (f56_ok hx7) ?_
 refine WO.w gN rfl (av_assign (evT fh rfl)) ?_
 refine WO.nil ?_
 refine SeqK.nrm ?_
 refine WC.seq ?_
 refine WC.region ?_
 refine WO.w gN rfl (av_move (evT fh rfl)) ?_
 obtain ⟨x8, hx8, hL⟩ := bind_some hL
 refine WO.cp gN rfl (Ent.fn has16 (evs_cons (evT fh rfl) evs_nil)) (f16_ok hx8) ?_
 refine WO.w gN rfl (av_move (evT fh rfl)) ?_
 refine WO.gv (GuardIs.yes rfl rfl rfl fh) rfl (fun hg => (av_move (evT (fs4 rfl (fs2 rfl e3)) rfl))) ?_
 refine WO.gv (GuardIs.yes rfl rfl rfl (fskip rfl fh)) rfl (fun hg => (av_move (evT (fs4 rfl fh) rfl))) ?_
 obtain ⟨x9, hx9, hL⟩ := gd_some hL
 refine WO.gcp (GuardIs.yes rfl rfl rfl (fs2 rfl fh)) rfl (fun hg => (Ent.fn has36 (evs_cons (evG (fskip rfl fh) rfl hg) (evs_cons (evG fh rfl hg) evs_nil)))) (fun hg => f36_ok (hS.slu hsp0_0) (hx9 hg)) ?_
 refine WO.gv (GuardIs.yes rfl rfl rfl (fs2 rfl (fskip rfl fh))) rfl (fun hg => (av_not (evG fh rfl hg))) ?_
 refine WO.w gN rfl (av_and (evT (fs4 rfl fh) rfl) (evGU fh) (evC rfl)) ?_
 refine WO.nil ?_
 refine SeqK.nrm ?_
 refine WC.condN (evT fh rfl) (fun hc => ?_) (fun hc => ?_)
 · replace hL := cond_tt hc hL
   refine WC.seq ?_
   refine WC.region ?_
   refine WO.w gN rfl (av_move (evT (fs8 rfl fh) rfl)) ?_
   refine WO.w gN rfl (av_assign (evT fh rfl)) ?_
   refine WO.nil ?_
   refine SeqK.nrm ?_
   refine WC.ret ?_
   refine BlkK.ret ?_
   refine SeqK.ret ?_
   refine LoopK.ret ?_
   refine BlkK.ret ?_
   have hr := Option.some.inj hL
   subst hr
   exact RetK.gen1 rfl (ares_tmp (evT fh rfl) ares_nil) ⟨_, ⟨rfl, rfl⟩, hT ▸ hS.only .n⟩
 · replace hL := cond_ff hc hL
   refine WC.skip ?_
   refine BlkK.nrm ?_
   refine SeqK.nrm ?_
   refine WC.region ?_
   refine WO.w gN rfl (av_move (evT (fs8 rfl (fs2 rfl (fskip rfl e5))) rfl)) ?_
   refine WO.w gN rfl (av_bin (evT fh rfl) (evC rfl) abin_addw) ?_
   refine WO.w gN rfl (av_assign (evT fh rfl)) ?_
   refine WO.nil ?_
   exact LoopK.nrm (hnext6 _ _ hL ⟨_, _, rfl, hS.only .n, (fs8 rfl (fs4 rfl (fs2 rfl e3))), fh⟩)
theorem f18_ok {F : Nat} {h : H} {p0 : (List ByteArray)} {pa0_0 : Option Addr} {pc0_0 : Nat} {r : ByteArray} (hsp0_0 : Sl rStr h.size h pa0_0 pc0_0 p0) (hL : f18L F p0 = some r) : Pure XX 18 #[.slice pa0_0 p0.length pc0_0] h (.string r) :=
 WR.pureC rfl (f18_wf (Nat.le_refl _) hsp0_0 hL)
end Go.Proofs.YtbnepjakjmnadaaGreat
end
end
section
noncomputable section
namespace Go.Proofs.YtbnepjakjmnadaaGreat
open Go.Abs Go.RowKit
def bodyOf (fn : Func) : Code := fn.body.getD .skip
def tailC : Nat → Code → Code
  | 0, c => c
  | k + 1, .seq _ b => tailC k b
  | _ + 1, c => c
def segRun (ih : Job → Option Res) (n : Nat) : Nat → Code → Fs → Option Fs
  | 0, _, s => some s
  | k + 1, .seq a b, s => match ih (.code a n 0 none s) with
    | some (.code .normal s1) => segRun ih n k b s1
    | _ => none
  | _ + 1, _, _ => none
def anyFr : Nat → Fr
  | 0 => .nil
  | n + 1 => Tr.set (anyFr n) n anyV
def anyS (n : Nat) : Fs := { fr := anyFr n, ds := [], h := ⟨.nil, 0⟩ }
theorem anyFr_at (n t : Nat) : (anyFr n).at t = if t < n then anyV else undef := by
  induction n with
  | zero => rfl
  | succ n ih =>
    unfold Fr.at at ih ⊢
    rw [anyFr, Tr.get_set]
    by_cases h : t = n
    · subst h; simp
    · rw [if_neg h, ih]
      by_cases h2 : t < n
      · rw [if_pos h2, if_pos (by omega)]
      · rw [if_neg h2, if_neg (by omega)]
theorem anyS_inv {n : Nat} {a : Act} {w : World} (h1 : a.tmps.size = n) (h2 : a.defers = []) : Inv noRen n (anyS n) a w := by
  refine ⟨⟨fun _ _ _ e => (by cases e), fun _ _ _ e => (by cases e), fun _ _ _ _ _ e => (by cases e)⟩, ⟨h1, fun t ht => ?_⟩, ?_⟩
  · have e : (anyS n).fr.at t = if t < n then anyV else undef := anyFr_at n t
    rw [e] at ht ⊢
    by_cases h : t < n
    · rw [if_pos h] at ht; cases ht
    · rw [if_neg h, Array.getD_eq_getD_getElem?, Array.getElem?_eq_none (by omega)]
      exact VR.undef _
  · rw [h2]; exact .nil
variable {X : Ctx} {k : Nat}
theorem segRun_sound {ih : Job → Option Res} (HI : ∀ j r, ih j = some r → JobOK X j r) {n : Nat} {Q : Exit → Act → World → Prop} : ∀ (m : Nat) (c : Code) (s s' : Fs), segRun ih n m c s = some s' → ∀ (ρ : Ren) (a : Act) (w : World), Inv ρ n s a w →
    (∀ ρ' a' w', Inv ρ' n s' a' w' → Stp 0 ρ s.h w ρ' s'.h w' → (tailC m c).wpIn Fence.wide 0 X.P Q a' w') → c.wpIn Fence.wide 0 X.P Q a w := by
  intro m
  induction m with
  | zero => intro c s s' h ρ a w hi hk; cases h; exact hk ρ a w hi (Stp.refl _ _ _ _)
  | succ m ihm =>
    intro c s s' h ρ a w hi hk
    cases c with
    | seq x y =>
      simp only [segRun] at h
      split at h
      · rename_i s1 h1
        refine wpIn_seq (wpIn_mono (HI _ _ h1 ρ a w Fence.wide (Nat.zero_le _) hi rfl) ?_)
        rintro e' a' w' ⟨ρ', he, hi', hst⟩
        cases he
        exact ihm y s1 s' h ρ' a' w' hi' fun ρ2 a2 w2 hi2 hst2 => hk ρ2 a2 w2 hi2 (hst.trans hi.rel.lt hst2)
      · cases h
    | _ => cases h
theorem stp_below {ρ ρ' : Ren} {h' : H} {w w' : World} {h : H} (hρ : ρ = noRen) (st : Stp 0 ρ h w ρ' h' w') : Below w.heap.size w w' := by
  subst hρ
  exact st.below fun i b d _ e => by cases e
end Go.Proofs.YtbnepjakjmnadaaGreat
end
end
section
noncomputable section
namespace Go.Proofs.YtbnepjakjmnadaaGreat
open Go.Abs Go.RowKit
def mkS (n : Nat) (fv : List (Nat × Value)) (ov : List (Nat × AObj)) (sz : Nat) : Fs :=
  { fr := fv.foldr (fun p f => Tr.set f p.1 p.2) (anyFr n), ds := [], h := ⟨ov.foldr (fun p t => Tr.set t p.1 p.2) .nil, sz⟩ }
def projF (n : Nat) (K O : List Nat) (s : Fs) : Fs := mkS n (K.map fun t => (t, s.fr.at t)) (O.map fun i => (i, s.h.at i)) s.h.size
def pieceRun (ih : Job → Option Res) (n : Nat) (K O : List Nat) (m : Nat) (c : Code) (s : Fs) : Option Fs :=
  match segRun ih n m c s with
  | some s1 => match s1.ds with
    | [] => some (projF n K O s1)
    | _ :: _ => none
  | none => none
theorem pieceRun_spec {ih : Job → Option Res} {n m : Nat} {K O : List Nat} {c : Code} {s s' : Fs} (h : pieceRun ih n K O m c s = some s') : ∃ s1, segRun ih n m c s = some s1 ∧ s1.ds = [] ∧ s' = projF n K O s1 := by
  unfold pieceRun at h
  split at h
  · rename_i s1 h1
    split at h
    · rename_i h2; cases h; exact ⟨s1, h1, h2, rfl⟩
    · cases h
  · cases h
theorem fold_get {α : Type} (g : Nat → α) (t0 : Tr α) : ∀ (K : List Nat) (t : Nat), ((K.map fun t => (t, g t)).foldr (fun p f => Tr.set f p.1 p.2) t0).get t = if t ∈ K then some (g t) else t0.get t := by
  intro K
  induction K with
  | nil => intro t; simp
  | cons k K ih =>
    intro t
    simp only [List.map_cons, List.foldr_cons, Tr.get_set, ih]
    by_cases h : t = k
    · subst h; simp
    · simp [h]
theorem proj_inv {ρ : Ren} {n : Nat} {K O : List Nat} {s : Fs} {a : Act} {w : World} (hi : Inv ρ n s a w) (hd : s.ds = []) : Inv ρ n (projF n K O s) a w := by
  have hat : ∀ i, (projF n K O s).h.at i = if i ∈ O then s.h.at i else .dead := by
    intro i
    show H.at ⟨_, s.h.size⟩ i = _
    by_cases hlt : i < s.h.size
    · have hb : Nat.blt i s.h.size = true := by rw [Nat.blt_eq]; exact hlt
      have hf := fold_get (fun i => s.h.at i) Tr.nil O i
      show (bif Nat.blt i s.h.size then (Tr.get (List.foldr _ Tr.nil (O.map fun i => (i, s.h.at i))) i).getD AObj.dead else AObj.dead) = _
      rw [hb, cond_true, hf]
      by_cases ho : i ∈ O
      · rw [if_pos ho, if_pos ho]; rfl
      · rw [if_neg ho, if_neg ho]; rfl
    · have hb : Nat.blt i s.h.size = false := by rw [Bool.eq_false_iff]; intro z; rw [Nat.blt_eq] at z; omega
      rw [H.at_ge (h := s.h) (by omega)]
      simp [H.at, hb]
  refine ⟨⟨hi.rel.dom, fun i b d e => ?_, fun i j b d d' e e' ho hl => ?_⟩, ⟨hi.fr.size, fun t ht => ?_⟩, ?_⟩
  · rw [hat]
    split
    · exact hi.rel.obj i b d e
    · trivial
  · rw [hat] at ho hl
    split at ho
    · split at hl
      · exact hi.rel.inj i j b d d' e e' ho hl
      · cases hl
    · cases ho
  · have e : (projF n K O s).fr.at t = if t ∈ K then s.fr.at t else (anyFr n).at t := by
      have hf := fold_get (fun t => s.fr.at t) (anyFr n) K t
      show (Tr.get (List.foldr _ (anyFr n) (K.map fun t => (t, s.fr.at t))) t).getD undef = _
      rw [hf]
      split <;> rfl
    rw [e] at ht ⊢
    split at ht
    · rw [if_pos (by assumption)]; exact hi.fr.val t ht
    · rename_i hn
      rw [if_neg hn]
      rw [anyFr_at] at ht ⊢
      by_cases h : t < n
      · rw [if_pos h] at ht; cases ht
      · have := hi.fr.size
        rw [if_neg h, Array.getD_eq_getD_getElem?, Array.getElem?_eq_none (by omega)]
        exact VR.undef _
  · have h := hi.ds
    rw [hd] at h
    exact h
variable {X : Ctx}
inductive Cuts2 (X : Ctx) (fn : Func) : Code → Fs → Prop
  | last {c : Code} {s : Fs} {k : Nat} (h : isTrue (cRes (fun e s => match xPM e with
      | some pm => ev (cfg X fun _ => false) k (.leave fn 0 pm s)
      | none => none) (ev (cfg X fun _ => false) k (.code c fn.ntmps 0 none s))) = true) : Cuts2 X fn c s
  | seg {c : Code} {s s' : Fs} {k : Nat} (m : Nat) (K O : List Nat) (h : pieceRun (ev (cfg X fun _ => false) k) fn.ntmps K O m c s = some s') (t : Cuts2 X fn (tailC m c) s') : Cuts2 X fn c s
theorem tailC_add (m : Nat) : ∀ (k : Nat) (c : Code), tailC m (tailC k c) = tailC (k + m) c := by
  intro k
  induction k with
  | zero => intro c; rw [Nat.zero_add]; rfl
  | succ k ih =>
    intro c
    rw [Nat.add_right_comm]
    cases c with
    | seq a b => exact ih b
    | _ => cases m <;> rfl
theorem Cuts2.seg2 {fn : Func} {body : Code} {s s' : Fs} {k pos : Nat} (m : Nat) {K O : List Nat} (h : pieceRun (ev (cfg X fun _ => false) k) fn.ntmps K O m (tailC pos body) s = some s') (t : Cuts2 X fn (tailC (pos + m) body) s') : Cuts2 X fn (tailC pos body) s :=
  .seg m K O h (by rw [tailC_add]; exact t)
theorem stp_proj {ρ ρ' : Ren} {w w' : World} {h' h2 : H} (st : Stp 0 ρ ⟨.nil, 0⟩ w ρ' h' w') (hs : h2.size = h'.size) : Stp 0 ρ ⟨.nil, 0⟩ w ρ' h2 w' :=
  ⟨st.ext, by rw [hs]; exact st.size, fun i hi => absurd hi (Nat.not_lt_zero _), fun i hi => absurd hi (Nat.not_lt_zero _), fun i hi => absurd hi (Nat.not_lt_zero _), st.os, st.tape, st.output, st.wsize, st.frame, st.newb⟩
theorem Cuts2.sound {fn : Func} (hm : X.P.follows .mixedOrders = true) {c : Code} {s : Fs} (h : Cuts2 X fn c s) : ∀ (ρ : Ren) (a : Act) (w w0 : World), Inv ρ fn.ntmps s a w → Stp 0 noRen ⟨.nil, 0⟩ w0 ρ s.h w →
    c.wpIn Fence.wide 0 X.P (bodyPostM Fence.wide 0 X.P fn (fun e w' => e = .returned (.bool true) ∧ Below w0.heap.size w0 w')) a w := by
  have hd0 : ∀ i p, noRen i = some p → i < (⟨.nil, 0⟩ : H).size := fun i p e => by cases e
  induction h with
  | last h =>
    intro ρ a w w0 hi hst0
    rename_i s k
    obtain ⟨h', hc⟩ := isTrue_some h
    obtain ⟨e, s1, ha, hk⟩ := cRes_eq hc
    have ka := run_sound (X := X) (pur := fun _ => false) hm k _ _ ha
    split at hk
    · rename_i pm hpm
      have hj := run_sound (X := X) (pur := fun _ => false) hm k _ _ hk
      refine wpIn_mono (ka ρ a w Fence.wide (Nat.zero_le _) hi rfl) ?_
      rintro e' a' w' ⟨ρ', he, hi', hst⟩
      have fin : ∀ e2 w2, PostF 0 ρ' s1.h w' (.ret (.bool true)) h' e2 w2 → e2 = .returned (.bool true) ∧ Below w0.heap.size w0 w2 := by
        rintro e2 w2 ⟨ρ2, hr, hrel, hst2⟩
        have hbb := stp_below rfl ((hst0.trans hd0 hst).trans hd0 hst2)
        refine ⟨?_, hbb⟩
        cases hr with
        | ret hv => cases hv; rfl
      cases he with
      | normal => cases hpm; exact hj ρ' _ a' .returning w' _ (Nat.zero_le _) hi' .ret fin
      | ret => cases hpm; exact hj ρ' _ a' .returning w' _ (Nat.zero_le _) hi' .ret fin
      | panic hv' => cases hpm; exact hj ρ' _ a' _ w' _ (Nat.zero_le _) hi' (.pan hv') fin
      | exit id => cases hpm
      | goto l => cases hpm
    · cases hk
  | seg m K O h t iht =>
    intro ρ a w w0 hi hst0
    rename_i c s s' k
    obtain ⟨s1, h1, h2, rfl⟩ := pieceRun_spec h
    refine segRun_sound (run_sound (X := X) (pur := fun _ => false) hm k) m c s s1 h1 ρ a w hi fun ρ' a' w' hi' hst => ?_
    exact iht ρ' a' w' w0 (proj_inv hi' h2) (stp_proj (hst0.trans hd0 hst) rfl)
theorem cuts2_true (X : Ctx) (hX : X.P = Tryz.prog) {f : FuncId} {fn : Func} {c : Code} (hf : Tryz.prog.funcs[f]? = some fn) (hb : fn.body = some c) (h : Cuts2 X fn c (anyS fn.ntmps)) (w : World) :
    Calls Tryz.prog f #[] w fun e w' => e = .returned (.bool true) ∧ Below w.heap.size w w' := by
  rw [← hX] at hf ⊢
  refine callsIn_wide.1 (callsIn_of_wp_marks hf hb trivial (h.sound (by rw [hX]; exact mixed) noRen _ w w (anyS_inv ?_ rfl) (Stp.refl _ _ _ _)) ?_)
  · simp
  · rfl
end Go.Proofs.YtbnepjakjmnadaaGreat
end
end
