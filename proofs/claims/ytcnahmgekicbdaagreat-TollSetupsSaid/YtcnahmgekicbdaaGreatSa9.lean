/- Setups Part 9 of the proof. -/
import Derived.Shelf.Sort.Plain
import Derived.Test.YtcnahmgekicbdaaGreatSa8
set_option linter.all false
set_option maxHeartbeats 2000000
section
noncomputable section
namespace Go.Abs
open Go.Lf
def SortC (P : Program) (f : FuncId) : Prop := ∀ (blk off cap : Nat) (zs : List Int) (w : World), Go.Sort.Holds (Value.int .i64) w blk off zs.toArray → blk < w.heap.size → zs.length < 4611686018427387904 →
  Calls P f #[.slice (some ⟨blk, off, none⟩) zs.length cap] w fun e w' => e = .returned (.tuple #[]) ∧ ∃ n os, w' = Go.Sort.grow (Go.Sort.putRow (Value.int .i64) (Go.Sort.ahead w n) blk off (zs.mergeSort fun x y => decide (x ≤ y)).toArray) os
def rowPut (cs : List Value) (o : Nat) (ys : List Int) : List Value := cs.mapIdx fun k x => if o ≤ k ∧ k < o + ys.length then .int .i64 (ys.getD (k - o) 0) else x
theorem rowPut_len (cs : List Value) (o : Nat) (ys : List Int) : (rowPut cs o ys).length = cs.length := by simp [rowPut]
theorem rowPut_get (cs : List Value) (o : Nat) (ys : List Int) (k : Nat) : (rowPut cs o ys)[k]? = cs[k]?.map fun x => if o ≤ k ∧ k < o + ys.length then .int .i64 (ys.getD (k - o) 0) else x := by simp [rowPut]
variable {X : Ctx} {f : FuncId} {wm wm0 : Nat} {h : H} {i o c : Nat} {cs : List Value} {xs : List Int}
theorem rInt_get (he : ElAt (rInt .i64) wm0 h cs o xs) {j : Nat} (hj : j < xs.length) : cs[o + j]? = some (.int .i64 xs[j]) := by
  obtain ⟨q, h1, _⟩ := he.get j xs[j] (List.getElem?_eq_getElem hj)
  have h1 : (cs.drop (o + j * 1)).take 1 = [.int .i64 xs[j]] := h1
  rw [Nat.mul_one] at h1
  have := congrArg (fun l => l[0]?) h1
  simpa [List.getElem?_take, List.getElem?_drop] using this
theorem sort_job (SC : SortC X.P f) (hat : h.at i = .row cs true 1) (hw : wm ≤ i) (he : ElAt (rInt .i64) wm0 h cs o xs) (hne : 0 < xs.length) (hlen : xs.length < 4611686018427387904) :
    JobOK X (.call f #[.slice (some ⟨i, o, none⟩) xs.length c] wm h) (.fin (.ret (.tuple #[])) (h.put i (.row (rowPut cs o (xs.mergeSort fun x y => decide (x ≤ y))) true 1))) := by
  intro ρ args' w hwm rel hv
  obtain ⟨hsz, hvv⟩ := hv
  have hsz : args'.size = 1 := hsz.symm
  obtain ⟨v', rfl⟩ : ∃ v', args' = #[v'] := ⟨args'[0], by
    apply Array.ext
    · simpa using hsz
    · intro k h1 h2; have : k = 0 := by omega
      subst this; rfl⟩
  have hvr := hvv 0 _ _ rfl rfl
  generalize hn : xs.length = n at hvr
  cases hvr with
  | sliceE => omega
  | @slice _ b d _ _ _ c' hρ hc =>
    subst hn
    have hb := (rel.dom i b d hρ).2
    have hil := (rel.dom i b d hρ).1
    have hob := rel.obj i b d hρ
    rw [hat] at hob
    obtain ⟨cc, el, fz, hcc, hfz, hdl, hcv⟩ := hob
    obtain ⟨hfz1, hfz2⟩ := hfz rfl
    subst hfz1
    have hlenE : o + xs.length * 1 ≤ cs.length := he.len
    have hcell : ∀ j (hj : j < xs.length), cc[d + (o + j)]? = some (.int .i64 xs[j]) := fun j hj => by
      have hk : d + (o + j) < cc.size := by omega
      have := hcv (o + j) _ cc[d + (o + j)] (rInt_get he hj) (Array.getElem?_eq_getElem hk)
      rw [Array.getElem?_eq_getElem hk]
      cases hx : cc[d + (o + j)] <;> rw [hx] at this <;> cases this
      rfl
    have hH : Go.Sort.Holds (Value.int .i64) w b (d + o) xs.toArray := by
      intro j hj
      have hj' : j < xs.length := by simpa using hj
      refine ⟨?_, by simp [World.frozen?, hcc]⟩
      have h1 := hcell j hj'
      simp only [World.cell?, hcc]
      simp only [Option.isSome_none, Bool.false_eq_true, if_false]
      rw [show d + o + j = d + (o + j) by omega, h1]
      simp [hj']
    refine callsIn_wide.2 ((SC b (d + o) c' xs w hH hb hlen).mono ?_)
    rintro e w' ⟨rfl, n, os, rfl⟩
    generalize hys : (xs.mergeSort fun x y => decide (x ≤ y)) = ys
    have hyl : ys.length = xs.length := by rw [← hys, List.length_mergeSort]
    have hheap : ∀ b', b' < w.heap.size → (Go.Sort.grow (Go.Sort.putRow (Value.int .i64) (Go.Sort.ahead w n) b (d + o) ys.toArray) os).heap[b']? = if b = b' then (w.heap[b']?).map (Go.Sort.onCells (Go.Sort.putCells (Value.int .i64) (d + o) ys.toArray)) else w.heap[b']? := fun b' hb' => by
      have hs : b' < (w.heap.modify b (Go.Sort.onCells (Go.Sort.putCells (Value.int .i64) (d + o) ys.toArray))).size := by simpa using hb'
      simp only [Go.Sort.grow, Go.Sort.putRow, Go.Sort.mapBlock, Go.Sort.ahead]
      rw [Array.getElem?_append_left hs, Array.getElem?_modify]
    have hsame : ∀ b', b' < w.heap.size → b' ≠ b → (Go.Sort.grow (Go.Sort.putRow (Value.int .i64) (Go.Sort.ahead w n) b (d + o) ys.toArray) os).heap[b']? = w.heap[b']? := fun b' hb' hne' => by rw [hheap b' hb', if_neg (fun q => hne' q.symm)]
    have hsize : w.heap.size ≤ (Go.Sort.grow (Go.Sort.putRow (Value.int .i64) (Go.Sort.ahead w n) b (d + o) ys.toArray) os).heap.size := by simp [Go.Sort.grow, Go.Sort.putRow, Go.Sort.mapBlock, Go.Sort.ahead]
    have hat' : ∀ j, (h.put i (.row (rowPut cs o ys) true 1)).at j = if j = i then .row (rowPut cs o ys) true 1 else h.at j := fun j => by
      rw [H.at_put]
      by_cases e : j = i
      · subst e; rw [if_pos ⟨rfl, hil⟩, if_pos rfl]
      · rw [if_neg (fun q => e q.1), if_neg e]
    have hdead : ∀ j d', ρ j = some (b, d') → j ≠ i → (h.at j).live = false := fun j d' hj hji => by
      cases hl : (h.at j).live with
      | false => rfl
      | true => exact absurd (rel.inj i j b d d' hρ hj (by rw [hat]; rfl) hl).symm hji
    refine ⟨ρ, .ret (.tuple _ _ rfl fun k v v' e => by simp at e), ⟨fun j b' d' hj => ⟨(rel.dom j b' d' hj).1, Nat.lt_of_lt_of_le (rel.dom j b' d' hj).2 hsize⟩, fun j b' d' hj => ?_, fun j k b' d1 d2 h1 h2 h3 h4 => ?_⟩, ?_⟩
    · rw [hat']
      by_cases e : j = i
      · subst e
        rw [hρ] at hj; cases hj
        rw [if_pos rfl]
        refine ⟨Go.Sort.putCells (Value.int .i64) (d + o) ys.toArray cc, el, (0, 0), ?_, fun _ => ⟨rfl, fun hz => ?_⟩, ?_, fun k v v' e1 e2 => ?_⟩
        · rw [hheap b hb, if_pos rfl, hcc]; rfl
        · rw [hfz2 hz]; simp [Go.Sort.putCells]
        · rw [rowPut_len]; simpa [Go.Sort.putCells] using hdl
        · rw [rowPut_get] at e1
          obtain ⟨v0, e0, rfl⟩ := Option.map_eq_some_iff.1 e1
          have hkl : k < cs.length := (List.getElem?_eq_some_iff.1 e0).1
          have hkc : d + k < cc.size := by omega
          have e3 : (Go.Sort.putCells (Value.int .i64) (d + o) ys.toArray cc)[d + k]? = some (if d + o ≤ d + k ∧ d + k < d + o + ys.length then .int .i64 ys.toArray[d + k - (d + o)]! else cc[d + k]) := by
            simp [Go.Sort.putCells, Array.getElem?_eq_getElem hkc]
          rw [e3] at e2
          cases e2
          by_cases hin : o ≤ k ∧ k < o + ys.length
          · rw [if_pos hin, if_pos (by omega)]
            have : ys.toArray[d + k - (d + o)]! = ys.getD (k - o) 0 := by
              rw [show d + k - (d + o) = k - o by omega]
              have hlt : k - o < ys.length := by omega
              simp [hlt]
            rw [this]; exact .int _ _
          · rw [if_neg hin, if_neg (by omega)]
            exact hcv k v0 _ e0 (Array.getElem?_eq_getElem hkc)
      · rw [if_neg e]
        by_cases eb : b' = b
        · subst eb
          have := hdead j d' hj e
          cases hh : h.at j with
          | dead => trivial
          | row _ _ _ => rw [hh] at this; cases this
          | map _ _ => rw [hh] at this; cases this
          | loop _ _ _ _ _ _ _ _ => rw [hh] at this; cases this
          | deferred => rw [hh] at this; cases this
          | strIter _ _ => rw [hh] at this; cases this
          | iter _ _ _ _ => rw [hh] at this; cases this
          | iterNil => rw [hh] at this; cases this
        · exact (rel.obj j b' d' hj).world (hsame b' (rel.dom j b' d' hj).2 eb)
    · rw [hat'] at h3 h4
      refine rel.inj j k b' d1 d2 h1 h2 ?_ ?_
      · by_cases e : j = i
        · subst e; rw [hat]; rfl
        · rwa [if_neg e] at h3
      · by_cases e : k = i
        · subst e; rw [hat]; rfl
        · rwa [if_neg e] at h4
    · refine ⟨Ren.le_refl ρ, Nat.le_refl _, fun j hj => ?_, fun j hj hx => ?_, fun j hj hx => ?_, rfl, rfl, rfl, hsize, fun b' hb' hno => ?_, fun j b' d' e e' => by rw [e] at e'; cases e'⟩
      · rw [hat', if_neg (by omega)]
      · rw [hat'] at hx
        by_cases e : j = i
        · subst e; rw [hat]; rfl
        · rwa [if_neg e] at hx
      · rw [hat'] at hx
        by_cases e : j = i
        · subst e; rw [hat]; rfl
        · rwa [if_neg e] at hx
      · exact hsame b' hb' fun q => hno i d hw (by rw [q]; exact hρ) (by rw [hat]; rfl)
theorem sort_wr (SC : SortC X.P f) (H0 : ∀ (wm : Nat) (h : H) (a : Option Addr) (c : Nat), JobOK X (.call f #[.slice a 0 c] wm h) (.fin (.ret (.tuple #[])) h)) {a : Option Addr} {n : Nat} (hlen : xs.length < 4611686018427387904)
    (hwm : wm ≤ h.size) (hO : Hold (wm := wm) [ow wm (rInt .i64) a n c xs] h) :
    WR X f #[.slice a n c] wm h (CP (fun (v : Value) (Gb : List (Ast wm)) => v = .tuple [].toArray ∧ Gb = [ow wm (rInt .i64) a n c (xs.mergeSort fun x y => decide (x ≤ y))]) [ow wm (rInt .i64) a n c xs] h) := by
  have hP : (ow wm (rInt .i64) a n c xs).P h := hO.all _ (by simp)
  obtain ⟨hn, so⟩ := hP
  have s0 : Sp wm (Fps [ow wm (rInt .i64) a n c xs]) h [ow wm (rInt .i64) a n c xs] h := Sp.start hwm hO
  have empty : xs = [] → WR X f #[.slice a n c] wm h (CP (fun (v : Value) (Gb : List (Ast wm)) => v = .tuple [].toArray ∧ Gb = [ow wm (rInt .i64) a n c (xs.mergeSort fun x y => decide (x ≤ y))]) [ow wm (rInt .i64) a n c xs] h) := fun e => by
    subst e
    have hn : n = 0 := hn
    subst hn
    exact ⟨_, h, ⟨_, rfl, _, ⟨rfl, rfl⟩, by simpa using s0⟩, H0 wm h a c⟩
  rcases so.mem with ⟨_, _, h3⟩ | ⟨i, o, cs, rfl, h2, h3, h4, h5, h6⟩
  · exact empty h3
  · rcases Nat.eq_zero_or_pos xs.length with z | z
    · exact empty (List.length_eq_zero_iff.1 z)
    · subst hn
      have h3 : h.at i = .row cs true 1 := h3
      have hj := sort_job (c := c) SC h3 h2 h6 z hlen
      refine ⟨_, _, ⟨_, rfl, _, ⟨rfl, rfl⟩, ?_⟩, hj⟩
      have hil : i < h.size := live_lt h3 rfl
      have hu : Up wm (BaseA (some ⟨i, o, none⟩)) h (h.put i (.row (rowPut cs o (xs.mergeSort fun x y => decide (x ≤ y))) true 1)) :=
        let u := Up.put (lo := wm) (A := .row (rowPut cs o (xs.mergeSort fun x y => decide (x ≤ y))) true 1) h2 (show (h.at i).own = true by rw [h3]; rfl)
        ⟨u.size, fun j hj hn => u.keep j hj fun e => hn ⟨o, by rw [e]⟩, fun j ⟨o', e⟩ => by cases e; exact ⟨h2, by rw [h3]; rfl⟩⟩
      refine s0.one .z hu (fun j q => q) ⟨?_, ?_, .inr ⟨i, o, _, rfl, h2, at_put_same hil _, ?_, ?_, ?_⟩⟩ fun j q => .inl q
      · rw [List.length_mergeSort]
      · rw [List.length_mergeSort]; exact so.max
      · rw [List.length_mergeSort]; exact h4
      · rw [rowPut_len]; exact h5
      · refine ⟨?_, fun k x hk => ⟨(), ?_, trivial⟩⟩
        · rw [rowPut_len, List.length_mergeSort]; exact h6.len
        · have hkl : k < (xs.mergeSort fun x y => decide (x ≤ y)).length := (List.getElem?_eq_some_iff.1 hk).1
          have hl : o + xs.length * 1 ≤ cs.length := h6.len
          have hkl2 : k < xs.length := by rwa [List.length_mergeSort] at hkl
          show ((rowPut cs o _).drop (o + k * 1)).take 1 = [.int .i64 x]
          rw [Nat.mul_one]
          apply List.ext_getElem?
          intro j
          cases j with
          | zero =>
            rw [List.getElem?_take_of_lt (by omega), List.getElem?_drop, Nat.add_zero, rowPut_get, List.getElem?_eq_getElem (show o + k < cs.length by omega)]
            simp only [Option.map_some, List.getElem?_cons_zero]
            rw [if_pos (by omega), show o + k - o = k by omega, List.getD_eq_getElem?_getD, hk]; rfl
          | succ j => rw [List.getElem?_take_eq_none (by omega)]; simp
end Go.Abs
end
end
section
set_option maxRecDepth 100000
noncomputable section
namespace Go.Proofs.YtcnahmgekicbdaaGreat
open Go.Abs Go.Lf
def layRen : Go.Shelf.Ren := ⟨fun | 189 => 58 | 125 => 87 | 257 => 86 | 128 => 122 | 129 => 123 | 294 => 113 | 295 => 114 | 296 => 115 | 297 => 116 | 298 => 117 | 299 => 118 | 216 => 119 | 300 => 120 | 301 => 121 | 328 => 131 | 329 => 132 | 330 => 133 | 331 => 134 | 332 => 135 | 215 => 136 | 343 => 141 | n => n, fun | 28 => 35 | 3 => 3 | 46 => 132 | 0 => 0 | 51 => 154 | 53 => 156 | 4 => 4 | 183 => 148 | 182 => 147 | 131 => 78 | 5 => 5 | 9 => 9 | 218 => 162 | 222 => 166 | 228 => 172 | 229 => 55 | n => n, fun n => n⟩
theorem layOk : Lays.n189 Tryz.prog layRen := {
  mixed := by kernel_rfl,
  f125 := Tryz.func87.trans (congrArg some (by kernel_rfl)),
  f128 := Tryz.func122.trans (congrArg some (by kernel_rfl)),
  f129 := Tryz.func123.trans (congrArg some (by kernel_rfl)),
  f189 := Tryz.func58.trans (congrArg some (by kernel_rfl)),
  f215 := Tryz.func136.trans (congrArg some (by kernel_rfl)),
  f216 := Tryz.func119.trans (congrArg some (by kernel_rfl)),
  f257 := Tryz.func86.trans (congrArg some (by kernel_rfl)),
  f294 := Tryz.func113.trans (congrArg some (by kernel_rfl)),
  f295 := Tryz.func114.trans (congrArg some (by kernel_rfl)),
  f296 := Tryz.func115.trans (congrArg some (by kernel_rfl)),
  f297 := Tryz.func116.trans (congrArg some (by kernel_rfl)),
  f298 := Tryz.func117.trans (congrArg some (by kernel_rfl)),
  f299 := Tryz.func118.trans (congrArg some (by kernel_rfl)),
  f300 := Tryz.func120.trans (congrArg some (by kernel_rfl)),
  f301 := Tryz.func121.trans (congrArg some (by kernel_rfl)),
  f328 := Tryz.func131.trans (congrArg some (by kernel_rfl)),
  f329 := Tryz.func132.trans (congrArg some (by kernel_rfl)),
  f330 := Tryz.func133.trans (congrArg some (by kernel_rfl)),
  f331 := Tryz.func134.trans (congrArg some (by kernel_rfl)),
  f332 := Tryz.func135.trans (congrArg some (by kernel_rfl)),
  f343 := Tryz.func141.trans (congrArg some (by kernel_rfl)),
  t0 := Tryz.underlying0,
  a0 := Tryz.isAgg0,
  z0 := Tryz.sizeOf0,
  v0 := Tryz.zeroValue0,
  t3 := Tryz.underlying3,
  a3 := Tryz.isAgg3,
  z3 := Tryz.sizeOf3,
  v3 := Tryz.zeroValue3,
  t4 := Tryz.underlying4,
  a4 := Tryz.isAgg4,
  z4 := Tryz.sizeOf4,
  v4 := Tryz.zeroValue4,
  t5 := Tryz.underlying5,
  a5 := Tryz.isAgg5,
  z5 := Tryz.sizeOf5,
  v5 := Tryz.zeroValue5,
  t9 := Tryz.underlying9,
  a9 := Tryz.isAgg9,
  z9 := Tryz.sizeOf9,
  v9 := Tryz.zeroValue9,
  t28 := Tryz.underlying35,
  a28 := Tryz.isAgg35,
  z28 := Tryz.sizeOf35,
  v28 := Tryz.zeroValue35,
  t46 := Tryz.underlying132,
  a46 := Tryz.isAgg132,
  z46 := Tryz.sizeOf132,
  v46 := Tryz.zeroValue132,
  t51 := Tryz.underlying154,
  a51 := Tryz.isAgg154,
  z51 := Tryz.sizeOf154,
  v51 := Tryz.zeroValue154,
  t53 := Tryz.underlying156,
  a53 := Tryz.isAgg156,
  z53 := Tryz.sizeOf156,
  v53 := Tryz.zeroValue156,
  t131 := Tryz.underlying78,
  a131 := Tryz.isAgg78,
  z131 := Tryz.sizeOf78,
  v131 := Tryz.zeroValue78,
  t182 := Tryz.underlying147,
  a182 := Tryz.isAgg147,
  z182 := Tryz.sizeOf147,
  v182 := Tryz.zeroValue147,
  t183 := Tryz.underlying148,
  a183 := Tryz.isAgg148,
  z183 := Tryz.sizeOf148,
  v183 := Tryz.zeroValue148,
  t218 := Tryz.underlying162,
  a218 := Tryz.isAgg162,
  z218 := Tryz.sizeOf162,
  v218 := Tryz.zeroValue162,
  t222 := Tryz.underlying166,
  a222 := Tryz.isAgg166,
  z222 := Tryz.sizeOf166,
  v222 := Tryz.zeroValue166,
  t228 := Tryz.underlying172,
  a228 := Tryz.isAgg172,
  z228 := Tryz.sizeOf172,
  v228 := Tryz.zeroValue172,
  t229 := Tryz.underlying55,
  a229 := Tryz.isAgg55,
  z229 := Tryz.sizeOf55,
  v229 := Tryz.zeroValue55 }
theorem sortC : SortC XX.P 58 := fun blk off cap zs w h1 h2 h3 => Any.slices_Sort_int layOk blk off cap zs w h1 h2 h3
theorem sort_nil (wm : Nat) (h : H) (a : Option Addr) (c : Nat) : JobOK XX (.call 58 #[.slice a 0 c] wm h) (.fin (.ret (.tuple #[])) h) := by
  have e : ev (cfg XX fun _ => false) 100 (.call 58 #[.slice a 0 c] wm h) = some (.fin (.ret (.tuple #[])) h) := by kernel_rfl
  exact run_sound (X := XX) mixed 100 _ _ e
theorem f58_wf {wm : Nat} {h : H} {p0 : List Int} {pa0_0 : Option Addr} {pc0_0 pn0_0 : Nat} {r : List Int} (hwm : wm ≤ h.size) (hO : Hold (wm := wm) [ow wm (rInt .i64) pa0_0 pn0_0 pc0_0 p0] h) (hL : f58L p0 = some r) :
    WR XX 58 #[.slice pa0_0 pn0_0 pc0_0] wm h (CP (fun (v : Value) (Gb : List (Ast wm)) => v = .tuple [].toArray ∧ Gb = [ow wm (rInt .i64) pa0_0 pn0_0 pc0_0 r]) [ow wm (rInt .i64) pa0_0 pn0_0 pc0_0 p0] h) := by
  unfold f58L at hL
  cases hb : Nat.ble p0.length 1000000 with
  | false => rw [hb] at hL; cases hL
  | true =>
    rw [hb] at hL
    cases hL
    have := Nat.le_of_ble_eq_true hb
    exact sort_wr sortC sort_nil (by omega) hwm hO
end Go.Proofs.YtcnahmgekicbdaaGreat
end
end
section
set_option linter.unusedVariables false
set_option linter.unusedSimpArgs false
namespace Go.Proofs.YtcnahmgekicbdaaGreat
open Go.Lf
def f31_b0 (p2 : Int) (x3 : (List Int)) : Int → (Int → Option Bool) → Option Bool := fun v14 next16 =>
  (bif decide (v14 < (x3.length : Int)) then (geti x3 v14).bind fun x17 => (bif (x17 == p2) then some true else next16 (w64 (v14 + 1))) else some false)
def f31L (F : Nat) (p0 : TollSetup) (p1 : Int) (p2 : Int) : Option Bool :=
  (bif (p1 == p2) then some true else (f38L F p0 p1).bind fun x3 => loop F (f31_b0 p2 x3) 0)
def f34_j0 (v28 : Int) (next32 : (Int × Int → Option Int)) : Int × Int × Bool → Option Int := fun (v47, v48, sp49) =>
  (bif sp49 then some v47 else next32 (w64 (v28 + 1), v47))
def f34_b2 (p0 : TollSetup) (v28 : Int) (next32 : (Int × Int → Option Int)) : Int × Int × Int × Bool → (Int × Int × Int × Bool → Option Int) → Option Int := fun (v62, v64, v65, sp66) next67 =>
  (bif decide (v62 ≥ 0) then (bif sp66 then none else (bif decide ((w64 (v65 + 1)) > (p0.spots.length : Int)) then (bif (!false) then (f34_j0 v28 next32) (2, w64 (v65 + 1), true) else (geti p0.spots v62).bind fun x73 => next67 (x73.in_, 2, w64 (v65 + 1), true)) else (bif (!true) then (f34_j0 v28 next32) (v64, w64 (v65 + 1), false) else (geti p0.spots v62).bind fun x77 => next67 (x77.in_, v64, w64 (v65 + 1), false)))) else (f34_j0 v28 next32) (v64, v65, sp66))
def f34_b1 (F : Nat) (p0 : TollSetup) : Int × Int → (Int × Int → Option Int) → Option Int := fun (v28, v30) next32 =>
  (bif decide (v28 < (p0.spots.length : Int)) then (geti p0.spots v28).bind fun x55 => loop F (f34_b2 p0 v28 next32) (x55.in_, v30, 0, false) else some 0)
def f34_b0 (F : Nat) (p0 : TollSetup) : Int → (Int → Option Int) → Option Int := fun v12 next14 =>
  (bif decide (v12 < (p0.spots.length : Int)) then (geti p0.spots v12).bind fun x15 => (gd ((!((decide (x15.at_ < 0)) || (decide (x15.at_ ≥ p0.machines)))) && (x15.in_ != (-1))) (f54L p0 x15.in_) default).bind fun x21 => (bif (((decide (x15.at_ < 0)) || (decide (x15.at_ ≥ p0.machines))) || ((x15.in_ != (-1)) && (!x21))) then some 2 else next14 (w64 (v12 + 1))) else loop F (f34_b1 F p0) (0, 0))
def f34L (F : Nat) (p0 : TollSetup) : Option Int :=
  (bif ((((decide (p0.machines < 1)) || (decide (p0.machines > 4))) || (decide ((p0.spots.length : Int) < 1))) || (decide ((p0.spots.length : Int) > 8))) then some 2 else loop F (f34_b0 F p0) 0)
def f35_j0 : (List Int) → Option (List Int) := fun v43 =>
  some v43
def f35_b0 (p0 : TollSetup) (v12 : Int) (next17 : (Int × (List Int) → Option (List Int))) : Int × (List Int) → (Int × (List Int) → Option (List Int)) → Option (List Int) := fun (v55, v57) next61 =>
  (bif decide (v55 < (p0.spots.length : Int)) then (geti p0.spots v55).bind fun x62 => (bif (x62.in_ == v12) then (next17 (v55, v57)).bind fun v72 => (bif (!true) then (f35_j0) v72 else next61 (w64 (v55 + 1), v72)) else next61 (w64 (v55 + 1), v57)) else (f35_j0) v57)
def f35_r0 (F : Nat) (p0 : TollSetup) : Int × (List Int) → (Int × (List Int) → Option (List Int)) → Option (List Int) := fun (v12, v13) next17 =>
  (app 8 v13 [v12]).bind fun z27 => loop F (f35_b0 p0 v12 next17) (0, z27)
def f35L (F : Nat) (p0 : TollSetup) (p1 : Int) : Option ((List Int) × Int) :=
  (f34L F p0).bind fun x3 => (gd (!(x3 != 0)) (f54L p0 p1) default).bind fun x4 => (bif ((x3 != 0) || (!x4)) then some ([], 2) else (loop F (f35_r0 F p0) (p1, [])).bind fun v81 => (f58L v81).bind fun x87 => some (x87, 0))
def f36_j0 : (List Int) → Option ((List Int) × Int) := fun v18 =>
  some (v18, 0)
def f36_b0 (p0 : TollSetup) : Int × (List Int) → (Int × (List Int) → Option ((List Int) × Int)) → Option ((List Int) × Int) := fun (v31, v33) next37 =>
  (bif decide (v31 ≥ 0) then (app 8 v33 [v31]).bind fun z41 => (bif (!true) then (f36_j0) z41 else (geti p0.spots v31).bind fun x47 => next37 (x47.in_, z41)) else (f36_j0) v33)
def f36L (F : Nat) (p0 : TollSetup) (p1 : Int) : Option ((List Int) × Int) :=
  (f34L F p0).bind fun x3 => (gd (!(x3 != 0)) (f54L p0 p1) default).bind fun x4 => (bif ((x3 != 0) || (!x4)) then some ([], 2) else (geti p0.spots p1).bind fun x24 => loop F (f36_b0 p0) (x24.in_, []))
def f37_j0 (v13 : Int) (next15 : ((List Int) × Int → Option (List Int))) : (List Int) → Option (List Int) := fun v20 =>
  next15 (v20, w64 (v13 + 1))
def f37_b0 (F : Nat) (p0 : TollSetup) (p1 : Int) : (List Int) × Int → ((List Int) × Int → Option (List Int)) → Option (List Int) := fun (v7, v13) next15 =>
  (bif decide (v13 < (p0.spots.length : Int)) then (f31L F p0 v13 p1).bind fun x27 => (bif x27 then (app 8 v7 [v13]).bind fun z30 => (f37_j0 v13 next15) z30 else (f37_j0 v13 next15) v7) else some v7)
def f37L (F : Nat) (p0 : TollSetup) (p1 : Int) : Option (List Int) :=
  loop F (f37_b0 F p0 p1) ([], 0)
end Go.Proofs.YtcnahmgekicbdaaGreat
end
section
set_option linter.unusedVariables false
set_option linter.unusedSimpArgs false
set_option maxRecDepth 20000
noncomputable section
namespace Go.Proofs.YtcnahmgekicbdaaGreat
open Go.Abs Go.Lf
theorem f31_wf {F : Nat} {wm : Nat} {h : H} {p0 : TollSetup} {p1 : Int} {p2 : Int} {pa0_0 : Option Addr} {pc0_0 : Nat} {r : Bool} (hwm : wm ≤ h.size) (hsp0_0 : Sl rTollSpot wm h pa0_0 pc0_0 p0.spots) (hL : f31L F p0 p1 p2 = some r) :
    WR XX 31 #[.agg [.int .i64 p0.machines, .slice pa0_0 p0.spots.length pc0_0].toArray, .int .i64 p1, .int .i64 p2] wm h (CP (fun (v : Value) (Gb : List (Ast wm)) => v = .bool r ∧ Gb = []) [] h) := by
 refine bg Tryz.ntmps31 hwm Hold.nil ?_
 intro T hT hS
 unfold f31L at hL
 refine r3 ?_
 rintro _ h2 ⟨b1, eb1, rfl, hS⟩
 refine r8 ?_
 refine r3 ?_
 refine cn hL ?_ ?_
 · intro hc hL
   refine r6 ?_
   refine r1 ?_
   exact rt hL hT hS
 · intro hc hL
   refine r6 ?_
   refine r1 ?_
   obtain ⟨x3, hx3, hL⟩ := bind_some hL
   refine WO.cl gN rfl (Ent.fn has38 (evs_cons lk (evs_cons lk evs_nil))) hS .n (fun g' hz hf hO => f38_wf (by rw [hz]; exact hS.hw) ((hS.sl hsp0_0).mono hf) hx3) ?_
   rintro _ h7 _ ⟨a4, n5, c6, rfl, rfl⟩ hS
   obtain rfl := hS.on k0
   refine r4 ?_
   refine r1 ?_
   refine WC.loop (WL.lift hL (fun (v14 : Int) (s : Fs) => ∃ (fr10 : Fr) (h9 : H), s = ⟨fr10, [], h9, none⟩ ∧ Sp wm T h [ow wm (rInt .i64) a4 x3.length c6 x3] h9 ∧ fr10.at 2 = .int .i64 p2 ∧ fr10.at 14 = .slice a4 x3.length c6 ∧ fr10.at 15 = .int .i64 (x3.length : Int) ∧ fr10.at 16 = .int .i64 v14) ⟨_, _, rfl, hS.only (.c k0 .n), las⟩ ?_)
   clear hL hS
   rintro next16 v14 s hnext16 hL ⟨fr10, h9, rfl, hS, e11, e12, e13, e15⟩
   dsimp only [f31_b0] at hL
   refine r6 ?_
   refine cn hL ?_ ?_
   · intro hc hL
     refine r6 ?_
     obtain ⟨x17, hx17, hL⟩ := bind_some hL
     obtain ⟨b18, o19, _, hab18, hAb18, hFb18⟩ := Src.at_ (hS.osrc k0) hx17
     refine WO.w gN rfl (av_ixn und35 size3 lk lk rfl hab18 hx17) ?_
     refine WO.w gN rfl (av_ld agg3 (evT fh rfl) hAb18 (j := 0) rfl (v := .int .i64 x17) rfl) ?_
     refine r8 ?_
     refine r2 ?_
     refine cn hL ?_ ?_
     · intro hc hL
       refine r8 ?_
       refine r3 ?_
       exact rt hL hT hS
     · intro hc hL
       refine r6 ?_
       refine r1 ?_
       exact LoopK.nrm (hnext16 _ _ hL ⟨_, _, rfl, hS.only (.c k0 .n), las⟩)
   · intro hc hL
     refine r8 ?_
     refine r3 ?_
     exact rt hL hT hS
theorem f31_ok {F : Nat} {h : H} {p0 : TollSetup} {p1 : Int} {p2 : Int} {pa0_0 : Option Addr} {pc0_0 : Nat} {r : Bool} (hsp0_0 : Sl rTollSpot h.size h pa0_0 pc0_0 p0.spots) (hL : f31L F p0 p1 p2 = some r) : Pure XX 31 #[.agg [.int .i64 p0.machines, .slice pa0_0 p0.spots.length pc0_0].toArray, .int .i64 p1, .int .i64 p2] h (.bool r) :=
 WR.pureC rfl (f31_wf (Nat.le_refl _) hsp0_0 hL)
theorem f34_wf {F : Nat} {wm : Nat} {h : H} {p0 : TollSetup} {pa0_0 : Option Addr} {pc0_0 : Nat} {r : Int} (hwm : wm ≤ h.size) (hsp0_0 : Sl rTollSpot wm h pa0_0 pc0_0 p0.spots) (hL : f34L F p0 = some r) :
    WR XX 34 #[.agg [.int .i64 p0.machines, .slice pa0_0 p0.spots.length pc0_0].toArray] wm h (CP (fun (v : Value) (Gb : List (Ast wm)) => v = .int .i64 r ∧ Gb = []) [] h) := by
 refine WF.beginL (args := [_]) (fn := Tryz.f34) (by kernel_rfl) (by exact rfl) Tryz.ntmps34 (by simp) ?_
 simp only [frameOf_cons, frameOf_nil, Nat.reduceAdd]
 obtain ⟨T, hT, hS⟩ : ∃ T, T = Fps (wm := wm) [] ∧ Sp wm T h [] h := ⟨_, rfl, Sp.start hwm Hold.nil⟩
 unfold f34L at hL
 refine r3 ?_
 rintro _ h2 ⟨b1, eb1, rfl, hS⟩
 refine r1 ?_
 rintro _ h4 ⟨b3, eb3, rfl, hS⟩
 refine r16 ?_
 refine r8 ?_
 refine r3 ?_
 refine cn hL ?_ ?_
 · intro hc hL
   refine r3 ?_
   rintro h5 hS
   refine r4 ?_
   have hr := Option.some.inj hL
   subst hr
   exact RetL.gen rfl (ares_cell (fs8 rfl (fs8 rfl (fs4 rfl fh))) (aload_at1 agg36 (hS.atB k0) (j := 0) rfl (v := .int .i64 2) rfl) ares_nil) rfl ⟨_, ⟨rfl, rfl⟩, hT ▸ hS.only .n⟩
 · intro hc hL
   refine r12 ?_
   refine WC.loop (WL.lift hL (fun (v12 : Int) (s : Fs) => ∃ (fr7 : Fr) (h6 : H), s = ⟨fr7, [], h6, none⟩ ∧ Sp wm T h [bx wm b1 [.int .i64 p0.machines, .slice pa0_0 p0.spots.length pc0_0], bx wm b3 [.int .i64 0]] h6 ∧ fr7.at 1 = .pointer (some ⟨b1, 0, none⟩) ∧ fr7.at 2 = .pointer (some ⟨b3, 0, none⟩) ∧ fr7.at 28 = .slice pa0_0 p0.spots.length pc0_0 ∧ fr7.at 29 = .int .i64 (p0.spots.length : Int) ∧ fr7.at 30 = .int .i64 v12) ⟨_, _, rfl, hS.only (.c k1 (.c k0 .n)), las⟩ ?_)
   clear hL hS
   rintro next14 v12 s hnext14 hL ⟨fr7, h6, rfl, hS, e8, e9, e10, e11, e13⟩
   dsimp only [f34_b0] at hL
   refine r6 ?_
   refine cn hL ?_ ?_
   · intro hc hL
     refine r6 ?_
     obtain ⟨x15, hx15, hL⟩ := bind_some hL
     obtain ⟨b16, o17, _, hab16, hAb16, hBb16, hFb16⟩ := Sl.at_ hsp0_0 hx15
     refine WO.w gN rfl (av_ixn und22 size66 lk lk rfl hab16 hx15) ?_
     refine WO.w gN rfl (av_ldA agg66 size66 (evT fh rfl) (At.fz hS.fz hBb16 hAb16) (j := 0) rfl rfl (ws := [.int .i64 x15.at_, .int .i64 x15.in_]) rfl) ?_
     refine r1 ?_
     rintro _ h19 ⟨b18, eb18, rfl, hS⟩
     refine r1 ?_
     rintro h20 hS
     refine r16 ?_
     refine r6 ?_
     obtain ⟨x21, hx21, hL⟩ := gd_some hL
     refine WO.gcp (GuardIs.yes2 rfl rfl rfl (fs2 rfl (fskip rfl fh))) rfl (fun hg => (Ent.fn has54 (evs_cons (evG (fs2 rfl fh) rfl hg) (evs_cons (evG fh rfl hg) evs_nil)))) (fun hg => f54_ok (hS.slu hsp0_0) (hx21 hg)) ?_
     refine r1 ?_
     refine WO.gv (GuardIs.no rfl rfl rfl (fs8 rfl (fskip rfl fh))) rfl (fun hg => (av_and (evG (fs4 rfl (fskip rfl fh)) rfl hg) (evGU2 fh hg) lk)) ?_
     refine r3 ?_
     refine cn hL ?_ ?_
     · intro hc hL
       refine r3 ?_
       rintro h22 hS
       refine r8 ?_
       have hr := Option.some.inj hL
       subst hr
       exact RetL.gen rfl (ares_cell (fs8 rfl (fs8 rfl (fs8 rfl (fs2 rfl e9)))) (aload_at1 agg36 (hS.atB k0) (j := 0) rfl (v := .int .i64 2) rfl) ares_nil) rfl ⟨_, ⟨rfl, rfl⟩, hT ▸ hS.only .n⟩
     · intro hc hL
       refine r6 ?_
       refine r1 ?_
       exact LoopK.nrm (hnext14 _ _ hL ⟨_, _, rfl, hS.only (.c k1 (.c k1 .n)), las⟩)
   · intro hc hL
     refine r12 ?_
     refine r3 ?_
     have hS := hS.cds0
     refine WC.loop (WL.lift hL (fun (p : Int × Int) (s : Fs) => match p with | (v28, v30) => ∃ (fr24 : Fr) (h23 : H) (ld31 : List Nat), s = ⟨fr24, (colD ld31 ++ []), h23, none⟩ ∧ Sp wm T h [bx wm b1 [.int .i64 p0.machines, .slice pa0_0 p0.spots.length pc0_0], bx wm b3 [.int .i64 v30], cds wm ld31] h23 ∧ fr24.at 1 = .pointer (some ⟨b1, 0, none⟩) ∧ fr24.at 2 = .pointer (some ⟨b3, 0, none⟩) ∧ fr24.at 59 = .int .i64 (p0.spots.length : Int) ∧ fr24.at 60 = .int .i64 v28) ⟨_, _, [], rfl, hS.only (.c k1 (.c k1 (.c k0 .n))), las⟩ ?_)
     clear hL hS
     rintro next32 ⟨v28, v30⟩ s hnext32 hL ⟨fr24, h23, ld31, rfl, hS, e25, e26, e27, e29⟩
     dsimp only [f34_b1] at hL
     refine r6 ?_
     refine cn hL ?_ ?_
     · intro hc hL
       refine r12 ?_
       refine r1 ?_
       rintro _ h34 ⟨b33, eb33, rfl, hS⟩
       refine r1 ?_
       rintro h35 hS
       refine r6 ?_
       refine WO.inl gN rfl (Ent.fn has55 (evs_cons lk (evs_cons lk evs_nil))) (WF.begin (args := [_, _]) (fn := Tryz.f55) (by kernel_rfl) (by exact rfl) Tryz.ntmps55 (by simp) ?_)
       simp only [frameOf_cons, frameOf_nil, Nat.reduceAdd]
       refine r3 ?_
       rintro _ h37 ⟨b36, eb36, rfl, hS⟩
       refine r1 ?_
       rintro _ h39 ⟨b38, eb38, rfl, hS⟩
       refine r4 ?_
       refine r1 ?_
       refine WO.w gN rfl (av_mkf (evs_cons lk (evs_cons lk evs_nil))) ?_
       refine r4 ?_
       refine RetK.gen1 rfl (ares_tmp lk ares_nil) ?_
       refine r3 ?_
       refine WC.rangeS (first := []) (cap := [.pointer (some ⟨b36, 0, none⟩), .pointer (some ⟨b38, 0, none⟩)]) hS lk has84 ?_
       intro h40 l41 df42 LO43 hLO44 hS
       refine WR.inlJ (r := r) (fun (p : Int × Int × Bool) (v : Value) (h45 : H) => match p with | (v47, v48, sp49) => v = .tuple [].toArray ∧ Sp wm T h [bx wm b1 [.int .i64 p0.machines, .slice pa0_0 p0.spots.length pc0_0], bx wm b3 [.int .i64 v47], bx wm b33 [.int .i64 v48], bx wm b36 [.int .i64 p0.machines, .slice pa0_0 p0.spots.length pc0_0], bx wm b38 [.int .i64 v28], cds wm ld31, ob wm l41 (lst sp49 Code.ret LO43), ob wm df42 .deferred] h45) (f34_j0 v28 next32) ?_ (WF.begin (args := [_, _, _]) (fn := Tryz.f84) (by kernel_rfl) (by exact rfl) Tryz.ntmps84 (by simp) ?_)
       · clear hL hS
         rintro ⟨v47, v48, sp49⟩ v h45 hL ⟨rfl, hS⟩
         dsimp only [f34_j0] at hL
         rcases bool_cases sp49 with hc | hc
         · replace hL := cond_tt hc hL
           rw [hc] at hS
           refine RgS.stop (c := Code.ret) hLO44 hS k6 ?_
           rintro h51 hS
           refine r6 ?_
           refine r1 ?_
           refine RetL.colS hS k6 ?_
           rintro h52 hS
           refine RetL.colsS hS k5 ?_
           rintro h53 hS
           have hr := Option.some.inj hL
           subst hr
           exact RetL.gen rfl (ares_cell (fs4 rfl (fs2 rfl (fskip rfl e26))) (aload_at1 agg36 (hS.atB k1) (j := 0) rfl (v := .int .i64 v47) rfl) ares_nil) rfl ⟨_, ⟨rfl, rfl⟩, hT ▸ hS.only .n⟩
         · replace hL := cond_ff hc hL
           rw [hc] at hS
           refine RgS.sp hLO44 hS k6 ?_
           rintro h54 hS
           refine r6 ?_
           refine r1 ?_
           have hS := hS.cdsc k6 k5
           exact LoopK.nrm (hnext32 _ _ hL ⟨_, _, (df42 :: ld31), rfl, hS.only (.c k1 (.c k1 (.c k0 .n))), las⟩)
       · skip
         simp only [frameOf_cons, frameOf_nil, Nat.reduceAdd]
         refine r4 ?_
         refine r1 ?_
         obtain ⟨x55, hx55, hL⟩ := bind_some hL
         obtain ⟨b56, o57, _, hab56, hAb56, hBb56, hFb56⟩ := Sl.at_ hsp0_0 hx55
         refine WO.w gN rfl (av_ixn und22 size66 lk lk rfl hab56 hx55) ?_
         refine r1 ?_
         refine WO.w gN rfl (av_ld agg3 (evT fh rfl) (At.fz hS.fz hBb56 hAb56) (j := 1) rfl (v := .int .i64 x55.in_) rfl) ?_
         refine r4 ?_
         refine WC.loop (WL.lift hL (fun (p : Int × Int × Int × Bool) (s : Fs) => match p with | (v62, v64, v65, sp66) => ∃ (fr59 : Fr) (h58 : H), s = ⟨fr59, [], h58, none⟩ ∧ Sp wm T h [bx wm b36 [.int .i64 p0.machines, .slice pa0_0 p0.spots.length pc0_0], bx wm b1 [.int .i64 p0.machines, .slice pa0_0 p0.spots.length pc0_0], bx wm b3 [.int .i64 v64], bx wm b33 [.int .i64 v65], bx wm b38 [.int .i64 v28], cds wm ld31, ob wm l41 (lst sp66 Code.ret LO43), ob wm df42 .deferred] h58 ∧ fr59.at 0 = .func (.yield l41) #[] #[] ∧ fr59.at 1 = .pointer (some ⟨b36, 0, none⟩) ∧ fr59.at 4 = .int .i64 v62) ⟨_, _, rfl, hS.only (.c k3 (.c k4 (.c k4 (.c k3 (.c k2 (.c k2 (.c k0 (.c k0 .n)))))))), las⟩ ?_)
         clear hL hS
         rintro next67 ⟨v62, v64, v65, sp66⟩ s hnext67 hL ⟨fr59, h58, rfl, hS, e60, e61, e63⟩
         dsimp only [f34_b2] at hL
         refine r6 ?_
         refine r1 ?_
         refine cn hL ?_ ?_
         · intro hc hL
           refine r8 ?_
           obtain ⟨hc68, hL⟩ := cond_no hL
           rw [hc68] at hS
           refine WO.yldS gN rfl lk lks hS k6 hLO44 rfl rfl ?_
           refine r1 ?_
           refine AsS.sp hLO44 hS k6 ?_
           rintro h69 hS
           refine r6 ?_
           rintro h70 hS
           refine r8 ?_
           refine r3 ?_
           refine cn hL ?_ ?_
           · intro hc hL
             refine r3 ?_
             rintro h71 hS
             refine r4 ?_
             refine BdS.stop .ret hLO44 hS k2 ?_
             rintro h72 hS
             refine r3 ?_
             refine cn hL ?_ ?_
             · intro hc hL
               refine r4 ?_
               refine r1 ?_
               exact RetK.gen (vs := []) rfl ares_nil rfl ⟨_, hL, ⟨rfl, hS.only (.c k4 (.c k1 (.c k1 (.c k1 (.c k1 (.c k1 (.c k0 (.c k0 .n))))))))⟩⟩
             · intro hc hL
               refine r6 ?_
               refine r1 ?_
               obtain ⟨x73, hx73, hL⟩ := bind_some hL
               obtain ⟨b74, o75, _, hab74, hAb74, hBb74, hFb74⟩ := Sl.at_ hsp0_0 hx73
               refine WO.w gN rfl (av_ixn und22 size66 lk lk rfl hab74 hx73) ?_
               refine r1 ?_
               refine WO.w gN rfl (av_ld agg3 (evT fh rfl) (At.fz hS.fz hBb74 hAb74) (j := 1) rfl (v := .int .i64 x73.in_) rfl) ?_
               refine r2 ?_
               exact LoopK.nrm (hnext67 _ _ hL ⟨_, _, rfl, hS.only (.c k3 (.c k3 (.c k1 (.c k1 (.c k1 (.c k1 (.c k0 (.c k0 .n)))))))), las⟩)
           · intro hc hL
             refine r2 ?_
             refine BdS.sp hLO44 hS k1 ?_
             rintro h76 hS
             refine r3 ?_
             refine cn hL ?_ ?_
             · intro hc hL
               refine r4 ?_
               refine r1 ?_
               exact RetK.gen (vs := []) rfl ares_nil rfl ⟨_, hL, ⟨rfl, hS.only (.c k3 (.c k3 (.c k1 (.c k1 (.c k1 (.c k1 (.c k0 (.c k0 .n))))))))⟩⟩
             · intro hc hL
               refine r6 ?_
               refine r1 ?_
               obtain ⟨x77, hx77, hL⟩ := bind_some hL
               obtain ⟨b78, o79, _, hab78, hAb78, hBb78, hFb78⟩ := Sl.at_ hsp0_0 hx77
               refine WO.w gN rfl (av_ixn und22 size66 lk lk rfl hab78 hx77) ?_
               refine r1 ?_
               refine WO.w gN rfl (av_ld agg3 (evT fh rfl) (At.fz hS.fz hBb78 hAb78) (j := 1) rfl (v := .int .i64 x77.in_) rfl) ?_
               refine r2 ?_
               exact LoopK.nrm (hnext67 _ _ hL ⟨_, _, rfl, hS.only (.c k2 (.c k2 (.c k2 (.c k1 (.c k1 (.c k1 (.c k0 (.c k0 .n)))))))), las⟩)
         · intro hc hL
           refine r4 ?_
           refine RetK.nrm ?_
           exact RetK.gen (vs := []) rfl ares_nil rfl ⟨_, hL, ⟨rfl, hS.only (.c k1 (.c k1 (.c k1 (.c k0 (.c k0 (.c k0 (.c k0 (.c k0 .n))))))))⟩⟩
     · intro hc hL
       refine r8 ?_
       rintro h80 hS
       refine r3 ?_
       refine RetL.colsS hS k2 ?_
       rintro h81 hS
       have hr := Option.some.inj hL
       subst hr
       exact RetL.gen rfl (ares_cell (fskip rfl e26) (aload_at1 agg36 (hS.atB k0) (j := 0) rfl (v := .int .i64 0) rfl) ares_nil) rfl ⟨_, ⟨rfl, rfl⟩, hT ▸ hS.only .n⟩
theorem f35_wf {F : Nat} {wm : Nat} {h : H} {p0 : TollSetup} {p1 : Int} {pa0_0 : Option Addr} {pc0_0 : Nat} {r : ((List Int) × Int)} (hwm : wm ≤ h.size) (hsp0_0 : Sl rTollSpot wm h pa0_0 pc0_0 p0.spots) (hL : f35L F p0 p1 = some r) :
    WR XX 35 #[.agg [.int .i64 p0.machines, .slice pa0_0 p0.spots.length pc0_0].toArray, .int .i64 p1] wm h (CP (fun (v : Value) (Gb : List (Ast wm)) => ∃ (ra0_0 : Option Addr) (rn0_0 : Nat) (rc0_0 : Nat), v = .tuple [.slice ra0_0 rn0_0 rc0_0, .int .i64 r.2].toArray ∧ Gb = [ow wm (rInt .i64) ra0_0 rn0_0 rc0_0 r.1]) [] h) := by
 refine bg Tryz.ntmps35 hwm Hold.nil ?_
 intro T hT hS
 unfold f35L at hL
 refine r3 ?_
 rintro _ h2 ⟨b1, eb1, rfl, hS⟩
 refine r8 ?_
 obtain ⟨x3, hx3, hL⟩ := bind_some hL
 refine WO.cp gN rfl (Ent.fn has34 (evs_cons lk evs_nil)) (WR.pureC rfl (f34_wf (Nat.le_refl _) (hS.slu hsp0_0) hx3)) ?_
 refine r4 ?_
 obtain ⟨x4, hx4, hL⟩ := gd_some hL
 refine WO.gcp (GuardIs.no rfl rfl rfl (fs2 rfl fh)) rfl (fun hg => (Ent.fn has54 (evs_cons (evG (fskip rfl fh) rfl hg) (evs_cons (evG fh rfl hg) evs_nil)))) (fun hg => f54_ok (hS.slu hsp0_0) (hx4 hg)) ?_
 refine r4 ?_
 refine cn hL ?_ ?_
 · intro hc hL
   refine r8 ?_
   have hS := hS.nil (e := (rInt .i64))
   have hr := Option.some.inj hL
   subst hr
   exact RetK.gen (vs := [.slice none 0 0, .int .i64 2]) rfl (ares_tmp lk (ares_tmp lk ares_nil)) rfl ⟨_, ⟨none, 0, 0, rfl, rfl⟩, hT ▸ hS.only (.c k0 .n)⟩
 · intro hc hL
   refine r4 ?_
   refine r1 ?_
   rintro _ h6 ⟨b5, eb5, rfl, hS⟩
   refine r4 ?_
   refine r1 ?_
   rintro _ h8 ⟨b7, eb7, rfl, hS⟩
   refine r4 ?_
   refine WO.w gN rfl (av_mkf (evs_cons lk (evs_cons lk (evs_cons lk evs_nil)))) ?_
   refine r1 ?_
   rintro h9 hS
   refine r6 ?_
   have hS := hS.add (A := fzA wm (rSl rTollSpot) (pa0_0, pc0_0) p0.spots) (hS.sl hsp0_0) (fun _ z => z)
   have hrec18 : ∀ (Fr : Nat) (x : Int × (List Int)) (v21 : (List Int)), loop Fr (f35_r0 F p0) x = some v21 → match x with | (v12, v13) => ∀ {h : H} (a14 : Option Addr) (c15 : Nat) (n16 : Nat), wm ≤ h.size → Hold (wm := wm) [bx wm b1 [.int .i64 p0.machines, .slice pa0_0 p0.spots.length pc0_0], ow wm (rInt .i64) a14 n16 c15 v13, bx wm b5 [.slice a14 n16 c15], bx wm b7 [.func (.func 56) #[] [.pointer (some ⟨b5, 0, none⟩), .pointer (some ⟨b1, 0, none⟩), .pointer (some ⟨b7, 0, none⟩)].toArray], fzA wm (rSl rTollSpot) (pa0_0, pc0_0) p0.spots] h → WR XX 56 #[.int .i64 v12, .pointer (some ⟨b5, 0, none⟩), .pointer (some ⟨b1, 0, none⟩), .pointer (some ⟨b7, 0, none⟩)] wm h (CP (fun (v : Value) (Gb : List (Ast wm)) => ∃ (a22 : Option Addr) (c23 : Nat) (n24 : Nat), v = .tuple [].toArray ∧ Gb = [bx wm b1 [.int .i64 p0.machines, .slice pa0_0 p0.spots.length pc0_0], ow wm (rInt .i64) a22 n24 c23 v21, bx wm b5 [.slice a22 n24 c23], bx wm b7 [.func (.func 56) #[] [.pointer (some ⟨b5, 0, none⟩), .pointer (some ⟨b1, 0, none⟩), .pointer (some ⟨b7, 0, none⟩)].toArray], fzA wm (rSl rTollSpot) (pa0_0, pc0_0) p0.spots]) [bx wm b1 [.int .i64 p0.machines, .slice pa0_0 p0.spots.length pc0_0], ow wm (rInt .i64) a14 n16 c15 v13, bx wm b5 [.slice a14 n16 c15], bx wm b7 [.func (.func 56) #[] [.pointer (some ⟨b5, 0, none⟩), .pointer (some ⟨b1, 0, none⟩), .pointer (some ⟨b7, 0, none⟩)].toArray], fzA wm (rSl rTollSpot) (pa0_0, pc0_0) p0.spots] h) := by
     clear hL hS
     refine rec_lift _ ?_
     rintro next17 hnext17 ⟨v12, v13⟩ r hL h a14 c15 n16 hwm hO
     dsimp only [f35_r0] at hL
     obtain ⟨T, hT, hS⟩ : ∃ T, T = Fps (wm := wm) [bx wm b1 [.int .i64 p0.machines, .slice pa0_0 p0.spots.length pc0_0], ow wm (rInt .i64) a14 n16 c15 v13, bx wm b5 [.slice a14 n16 c15], bx wm b7 [.func (.func 56) #[] [.pointer (some ⟨b5, 0, none⟩), .pointer (some ⟨b1, 0, none⟩), .pointer (some ⟨b7, 0, none⟩)].toArray], fzA wm (rSl rTollSpot) (pa0_0, pc0_0) p0.spots] ∧ Sp wm T h [bx wm b1 [.int .i64 p0.machines, .slice pa0_0 p0.spots.length pc0_0], ow wm (rInt .i64) a14 n16 c15 v13, bx wm b5 [.slice a14 n16 c15], bx wm b7 [.func (.func 56) #[] [.pointer (some ⟨b5, 0, none⟩), .pointer (some ⟨b1, 0, none⟩), .pointer (some ⟨b7, 0, none⟩)].toArray], fzA wm (rSl rTollSpot) (pa0_0, pc0_0) p0.spots] h := ⟨_, rfl, Sp.start hwm hO⟩
     obtain rfl := hS.on k1
     refine WF.beginL (args := [_, _, _, _]) (fn := Tryz.f56) (by kernel_rfl) (by exact rfl) Tryz.ntmps56 (by simp) ?_
     simp only [frameOf_cons, frameOf_nil, Nat.reduceAdd]
     refine r4 ?_
     refine WO.hn gN rfl (s_bs (e := (rInt .i64)) hS und35 size3 zero3 rfl rfl rfl (evp_cons lk evp_nil) rfl [((), v12)] rfl (xs := [v12]) rfl (by intro q hq; simp only [List.mem_cons, List.not_mem_nil, or_false] at hq; subst hq; exact trivial) rfl) ?_
     rintro _ h26 ⟨b25, eb25, rfl, hS⟩
     obtain ⟨z27, hz27, hL⟩ := bind_some hL
     refine WO.hv gN rfl (s_ap (e := (rInt .i64)) hS k2 app35_35 lk lk (hS.osrc k0) (hS.on k0) hz27) ?_
     rintro _ h30 ⟨a28, c29, rfl, hS⟩
     refine r1 ?_
     rintro h31 hS
     refine r6 ?_
     refine WO.inl gN rfl (Ent.fn has57 (evs_cons lk (evs_cons lk evs_nil))) (WF.begin (args := [_, _]) (fn := Tryz.f57) (by kernel_rfl) (by exact rfl) Tryz.ntmps57 (by simp) ?_)
     simp only [frameOf_cons, frameOf_nil, Nat.reduceAdd]
     refine r3 ?_
     rintro _ h33 ⟨b32, eb32, rfl, hS⟩
     refine r1 ?_
     rintro _ h35 ⟨b34, eb34, rfl, hS⟩
     refine r4 ?_
     refine r1 ?_
     refine WO.w gN rfl (av_mkf (evs_cons lk (evs_cons lk evs_nil))) ?_
     refine r4 ?_
     refine RetK.gen1 rfl (ares_tmp lk ares_nil) ?_
     refine r3 ?_
     refine WC.rangeX (first := []) (cap := [.pointer (some ⟨b32, 0, none⟩), .pointer (some ⟨b34, 0, none⟩)]) hS lk has85 ?_
     intro h36 l37 df38 LO39 hLO40 hS
     refine WR.inlJ (r := r) (fun (v43 : (List Int)) (v : Value) (h41 : H) => ∃ (a44 : Option Addr) (c45 : Nat) (n46 : Nat), v = .tuple [].toArray ∧ Sp wm T h [ow wm (rInt .i64) a44 n46 c45 v43, bx wm b5 [.slice a44 n46 c45], bx wm b1 [.int .i64 p0.machines, .slice pa0_0 p0.spots.length pc0_0], bx wm b7 [.func (.func 56) #[] [.pointer (some ⟨b5, 0, none⟩), .pointer (some ⟨b1, 0, none⟩), .pointer (some ⟨b7, 0, none⟩)].toArray], bx wm b32 [.int .i64 p0.machines, .slice pa0_0 p0.spots.length pc0_0], bx wm b34 [.int .i64 v12], fzA wm (rSl rTollSpot) (pa0_0, pc0_0) p0.spots, ob wm l37 LO39, ob wm df38 .deferred] h41) (f35_j0) ?_ (WF.begin (args := [_, _, _]) (fn := Tryz.f85) (by kernel_rfl) (by exact rfl) Tryz.ntmps85 (by simp) ?_)
     · clear hL hS
       rintro v43 v h41 hL ⟨a44, c45, n46, rfl, hS⟩
       obtain rfl := hS.on k0
       dsimp only [f35_j0] at hL
       refine RgE.sp hLO40 hS k7 ?_
       rintro h47 hS
       refine r1 ?_
       refine RetL.nrm ?_
       refine RetL.colS hS k7 ?_
       rintro h48 hS
       have hr := Option.some.inj hL
       subst hr
       exact RetL.gen (vs := []) rfl ares_nil rfl ⟨_, ⟨a44, c45, v43.length, rfl, rfl⟩, hT ▸ hS.only (.c k2 (.c k0 (.c k0 (.c k0 (.c k2 .n)))))⟩
     · skip
       simp only [frameOf_cons, frameOf_nil, Nat.reduceAdd]
       refine r8 ?_
       refine r1 ?_
       refine WC.loop (WL.lift hL (fun (p : Int × (List Int)) (s : Fs) => match p with | (v55, v57) => ∃ (fr50 : Fr) (h49 : H) (a58 : Option Addr) (c59 : Nat) (n60 : Nat), s = ⟨fr50, [], h49, none⟩ ∧ Sp wm T h [bx wm b34 [.int .i64 v12], bx wm b1 [.int .i64 p0.machines, .slice pa0_0 p0.spots.length pc0_0], ow wm (rInt .i64) a58 n60 c59 v57, bx wm b5 [.slice a58 n60 c59], bx wm b7 [.func (.func 56) #[] [.pointer (some ⟨b5, 0, none⟩), .pointer (some ⟨b1, 0, none⟩), .pointer (some ⟨b7, 0, none⟩)].toArray], bx wm b32 [.int .i64 p0.machines, .slice pa0_0 p0.spots.length pc0_0], fzA wm (rSl rTollSpot) (pa0_0, pc0_0) p0.spots, ob wm l37 LO39, ob wm df38 .deferred] h49 ∧ fr50.at 0 = .func (.yield l37) #[] #[] ∧ fr50.at 2 = .pointer (some ⟨b34, 0, none⟩) ∧ fr50.at 7 = .slice pa0_0 p0.spots.length pc0_0 ∧ fr50.at 8 = .int .i64 (p0.spots.length : Int) ∧ fr50.at 9 = .int .i64 v55) ⟨_, _, a28, c29, z27.length, rfl, hS.only (.c k2 (.c k6 (.c k4 (.c k3 (.c k4 (.c k2 (.c k3 (.c k0 (.c k0 .n))))))))), las⟩ ?_)
       clear hL hS
       rintro next61 ⟨v55, v57⟩ s hnext61 hL ⟨fr50, h49, a58, c59, n60, rfl, hS, e51, e52, e53, e54, e56⟩
       obtain rfl := hS.on k2
       dsimp only [f35_b0] at hL
       refine r6 ?_
       refine cn hL ?_ ?_
       · intro hc hL
         refine r6 ?_
         refine r1 ?_
         obtain ⟨x62, hx62, hL⟩ := bind_some hL
         obtain ⟨b63, o64, _, hab63, hAb63, hBb63, hFb63⟩ := Sl.at_ (hS.fsl k6) hx62
         refine WO.w gN rfl (av_ixn und22 size66 lk lk rfl hab63 hx62) ?_
         refine WO.w gN rfl (av_ldA agg66 size66 (evT fh rfl) hAb63 (j := 0) rfl rfl (ws := [.int .i64 x62.at_, .int .i64 x62.in_]) rfl) ?_
         refine r1 ?_
         rintro _ h66 ⟨b65, eb65, rfl, hS⟩
         refine r2 ?_
         rintro h67 hS
         refine r8 ?_
         refine r3 ?_
         refine WO.gsplit (GuardIs.yes rfl rfl rfl (fs2 rfl fh)) (fun hk68 => ?_) (fun hk68 => ?_)
         · replace hL := cond_tt hk68 hL
           refine WO.yldI (GuardIs.on (GuardIs.yes rfl rfl rfl (fs2 rfl fh)) hk68) rfl (evG (fskip rfl fh) rfl hk68) (evs_cons (evG fh rfl hk68) evs_nil) hS k8 hLO40 rfl rfl ?_
           refine r3 ?_
           refine AsK.sp hLO40 hS k8 ?_
           rintro h69 hS
           refine r4 ?_
           obtain ⟨v72, hx77, hL⟩ := bind_some hL
           refine WO.cl gN rfl (Ent.clo (first := []) (cap := [.pointer (some ⟨b5, 0, none⟩), .pointer (some ⟨b1, 0, none⟩), .pointer (some ⟨b7, 0, none⟩)]) lk has56 lks rfl) hS (.c k3 (.c k3 (.c k3 (.c k3 (.c k4 .n))))) (fun g' hz hf hO => hnext17 _ _ hx77 a58 c59 v57.length (by rw [hz]; exact hS.hw) hO) ?_
           rintro _ h76 _ ⟨a73, c74, n75, rfl, rfl⟩ hS
           obtain rfl := hS.on k1
           refine r2 ?_
           refine BdK.sp hLO40 hS k5 ?_
           rintro h78 hS
           refine WO.w (GuardIs.on (GuardIs.yes rfl rfl rfl (fs2 rfl (fskip rfl fh))) hk68) rfl (av_not lk) ?_
           refine WO.w gN rfl (av_pkT lk hk68 lk) ?_
           refine r2 ?_
           refine cn hL ?_ ?_
           · intro hc hL
             refine r4 ?_
             refine r1 ?_
             exact RetK.gen (vs := []) rfl ares_nil rfl ⟨_, hL, ⟨a73, c74, v72.length, rfl, hS.only (.c k2 (.c k2 (.c k1 (.c k1 (.c k4 (.c k3 (.c k1 (.c k0 (.c k1 .n)))))))))⟩⟩
           · intro hc hL
             refine r6 ?_
             refine r1 ?_
             exact LoopK.nrm (hnext61 _ _ hL ⟨_, _, a73, c74, v72.length, rfl, hS.only (.c k7 (.c k1 (.c k1 (.c k1 (.c k1 (.c k3 (.c k1 (.c k0 (.c k1 .n))))))))), las⟩)
         · replace hL := cond_ff hk68 hL
           refine WO.offO (GuardIs.yes rfl rfl rfl (fs2 rfl fh)) hk68 rfl ?_
           refine WO.offO (GuardIs.yes rfl rfl rfl (fs2 rfl (fskip rfl fh))) hk68 rfl ?_
           refine WO.w gN rfl (av_pkF lk hk68 lk) ?_
           refine r2 ?_
           refine WC.condFN lk rfl ?_
           refine r6 ?_
           refine r1 ?_
           exact LoopK.nrm (hnext61 _ _ hL ⟨_, _, a58, c59, v57.length, rfl, hS.only (.c k1 (.c k1 (.c k1 (.c k1 (.c k1 (.c k1 (.c k1 (.c k1 (.c k1 .n))))))))), las⟩)
       · intro hc hL
         refine r4 ?_
         refine RetK.nrm ?_
         exact RetK.gen (vs := []) rfl ares_nil rfl ⟨_, hL, ⟨a58, c59, v57.length, rfl, hS.only (.c k2 (.c k2 (.c k1 (.c k1 (.c k1 (.c k0 (.c k0 (.c k0 (.c k0 .n)))))))))⟩⟩
   have hS := hS.nil (e := (rInt .i64))
   obtain ⟨v81, hx86, hL⟩ := bind_some hL
   refine WO.cl gN rfl (Ent.clo (first := []) (cap := [.pointer (some ⟨b5, 0, none⟩), .pointer (some ⟨b1, 0, none⟩), .pointer (some ⟨b7, 0, none⟩)]) lk has56 lks rfl) hS (.c k4 (.c k0 (.c k2 (.c k1 (.c k0 .n))))) (fun g' hz hf hO => hrec18 _ _ _ hx86 none 0 0 (by rw [hz]; exact hS.hw) hO) ?_
   rintro _ h85 _ ⟨a82, c83, n84, rfl, rfl⟩ hS
   obtain rfl := hS.on k1
   refine r4 ?_
   refine r1 ?_
   obtain ⟨x87, hx87, hL⟩ := bind_some hL
   refine WO.cl gN rfl (Ent.fn has58 (evs_cons lk evs_nil)) hS (.c k1 .n) (fun g' hz hf hO => f58_wf (by rw [hz]; exact hS.hw) hO hx87) ?_
   rintro _ h88 _ ⟨rfl, rfl⟩ hS
   refine r8 ?_
   refine r2 ?_
   have hr := Option.some.inj hL
   subst hr
   exact RetK.gen (vs := [.slice a82 v81.length c83, .int .i64 0]) rfl (ares_tmp lk (ares_tmp lk ares_nil)) rfl ⟨_, ⟨a82, v81.length, c83, rfl, rfl⟩, hT ▸ hS.only (.c k0 .n)⟩
theorem f36_wf {F : Nat} {wm : Nat} {h : H} {p0 : TollSetup} {p1 : Int} {pa0_0 : Option Addr} {pc0_0 : Nat} {r : ((List Int) × Int)} (hwm : wm ≤ h.size) (hsp0_0 : Sl rTollSpot wm h pa0_0 pc0_0 p0.spots) (hL : f36L F p0 p1 = some r) :
    WR XX 36 #[.agg [.int .i64 p0.machines, .slice pa0_0 p0.spots.length pc0_0].toArray, .int .i64 p1] wm h (CP (fun (v : Value) (Gb : List (Ast wm)) => ∃ (ra0_0 : Option Addr) (rn0_0 : Nat) (rc0_0 : Nat), v = .tuple [.slice ra0_0 rn0_0 rc0_0, .int .i64 r.2].toArray ∧ Gb = [ow wm (rInt .i64) ra0_0 rn0_0 rc0_0 r.1]) [] h) := by
 refine bg Tryz.ntmps36 hwm Hold.nil ?_
 intro T hT hS
 unfold f36L at hL
 refine r3 ?_
 rintro _ h2 ⟨b1, eb1, rfl, hS⟩
 refine r8 ?_
 obtain ⟨x3, hx3, hL⟩ := bind_some hL
 refine WO.cp gN rfl (Ent.fn has34 (evs_cons lk evs_nil)) (WR.pureC rfl (f34_wf (Nat.le_refl _) (hS.slu hsp0_0) hx3)) ?_
 refine r4 ?_
 obtain ⟨x4, hx4, hL⟩ := gd_some hL
 refine WO.gcp (GuardIs.no rfl rfl rfl (fs2 rfl fh)) rfl (fun hg => (Ent.fn has54 (evs_cons (evG (fskip rfl fh) rfl hg) (evs_cons (evG fh rfl hg) evs_nil)))) (fun hg => f54_ok (hS.slu hsp0_0) (hx4 hg)) ?_
 refine r4 ?_
 refine cn hL ?_ ?_
 · intro hc hL
   refine r8 ?_
   have hS := hS.nil (e := (rInt .i64))
   have hr := Option.some.inj hL
   subst hr
   exact RetK.gen (vs := [.slice none 0 0, .int .i64 2]) rfl (ares_tmp lk (ares_tmp lk ares_nil)) rfl ⟨_, ⟨none, 0, 0, rfl, rfl⟩, hT ▸ hS.only (.c k0 .n)⟩
 · intro hc hL
   refine r6 ?_
   refine WO.inl gN rfl (Ent.fn has55 (evs_cons lk (evs_cons lk evs_nil))) (WF.begin (args := [_, _]) (fn := Tryz.f55) (by kernel_rfl) (by exact rfl) Tryz.ntmps55 (by simp) ?_)
   simp only [frameOf_cons, frameOf_nil, Nat.reduceAdd]
   refine r3 ?_
   rintro _ h6 ⟨b5, eb5, rfl, hS⟩
   refine r1 ?_
   rintro _ h8 ⟨b7, eb7, rfl, hS⟩
   refine r4 ?_
   refine r1 ?_
   refine WO.w gN rfl (av_mkf (evs_cons lk (evs_cons lk evs_nil))) ?_
   refine r4 ?_
   refine RetK.gen1 rfl (ares_tmp lk ares_nil) ?_
   refine WO.inl gN rfl (Ent.fn has59 (evs_cons lk evs_nil)) (WF.begin (args := [_]) (fn := Tryz.f59) (by kernel_rfl) (by exact rfl) Tryz.ntmps59 (by simp) ?_)
   simp only [frameOf_cons, frameOf_nil, Nat.reduceAdd]
   refine r8 ?_
   refine WO.inl gN rfl (Ent.fn has88 (evs_cons lk (evs_cons lk evs_nil))) (WF.beginL (args := [_, _]) (fn := Tryz.f88) (by kernel_rfl) (by exact rfl) Tryz.ntmps88 (by simp) ?_)
   simp only [frameOf_cons, frameOf_nil, Nat.reduceAdd]
   refine r3 ?_
   rintro _ h10 ⟨b9, eb9, rfl, hS⟩
   refine r8 ?_
   refine r2 ?_
   refine WC.rangeX (first := []) (cap := [.pointer (some ⟨b5, 0, none⟩), .pointer (some ⟨b7, 0, none⟩)]) hS lk has84 ?_
   intro h11 l12 df13 LO14 hLO15 hS
   refine WR.inlJ (r := r) (fun (v18 : (List Int)) (v : Value) (h16 : H) => ∃ (a19 : Option Addr) (c20 : Nat) (n21 : Nat), v = .tuple [].toArray ∧ Sp wm T h [bx wm b5 [.int .i64 p0.machines, .slice pa0_0 p0.spots.length pc0_0], bx wm b7 [.int .i64 p1], ow wm (rInt .i64) a19 n21 c20 v18, bx wm b9 [.slice a19 n21 c20], bx wm b1 [.int .i64 p0.machines, .slice pa0_0 p0.spots.length pc0_0], ob wm l12 LO14, ob wm df13 .deferred] h16) (f36_j0) ?_ (WF.begin (args := [_, _, _]) (fn := Tryz.f84) (by kernel_rfl) (by exact rfl) Tryz.ntmps84 (by simp) ?_)
   · clear hL hS
     rintro v18 v h16 hL ⟨a19, c20, n21, rfl, hS⟩
     obtain rfl := hS.on k2
     dsimp only [f36_j0] at hL
     refine RgE.sp hLO15 hS k5 ?_
     rintro h22 hS
     refine r8 ?_
     refine r1 ?_
     refine RetL.colS hS k5 ?_
     rintro h23 hS
     refine RetL.gen rfl (ares_tmp lk ares_nil) rfl ?_
     refine r4 ?_
     refine RetK.gen1 rfl (ares_tmp lk ares_nil) ?_
     refine r4 ?_
     refine r1 ?_
     have hr := Option.some.inj hL
     subst hr
     exact RetK.gen (vs := [.slice a19 v18.length c20, .int .i64 0]) rfl (ares_tmp lk (ares_tmp lk ares_nil)) rfl ⟨_, ⟨a19, v18.length, c20, rfl, rfl⟩, hT ▸ hS.only (.c k2 .n)⟩
   · skip
     simp only [frameOf_cons, frameOf_nil, Nat.reduceAdd]
     refine r4 ?_
     refine r1 ?_
     obtain ⟨x24, hx24, hL⟩ := bind_some hL
     obtain ⟨b25, o26, _, hab25, hAb25, hBb25, hFb25⟩ := Sl.at_ hsp0_0 hx24
     refine WO.w gN rfl (av_ixn und22 size66 lk lk rfl hab25 hx24) ?_
     refine r1 ?_
     refine WO.w gN rfl (av_ld agg3 (evT fh rfl) (At.fz hS.fz hBb25 hAb25) (j := 1) rfl (v := .int .i64 x24.in_) rfl) ?_
     refine r4 ?_
     have hS := hS.nil (e := (rInt .i64))
     refine WC.loop (WL.lift hL (fun (p : Int × (List Int)) (s : Fs) => match p with | (v31, v33) => ∃ (fr28 : Fr) (h27 : H) (a34 : Option Addr) (c35 : Nat) (n36 : Nat), s = ⟨fr28, [], h27, none⟩ ∧ Sp wm T h [bx wm b5 [.int .i64 p0.machines, .slice pa0_0 p0.spots.length pc0_0], bx wm b1 [.int .i64 p0.machines, .slice pa0_0 p0.spots.length pc0_0], bx wm b7 [.int .i64 p1], ow wm (rInt .i64) a34 n36 c35 v33, bx wm b9 [.slice a34 n36 c35], ob wm l12 LO14, ob wm df13 .deferred] h27 ∧ fr28.at 0 = .func (.yield l12) #[] #[] ∧ fr28.at 1 = .pointer (some ⟨b5, 0, none⟩) ∧ fr28.at 4 = .int .i64 v31) ⟨_, _, none, 0, 0, rfl, hS.only (.c k5 (.c k5 (.c k4 (.c k0 (.c k2 (.c k0 (.c k0 .n))))))), las⟩ ?_)
     clear hL hS
     rintro next37 ⟨v31, v33⟩ s hnext37 hL ⟨fr28, h27, a34, c35, n36, rfl, hS, e29, e30, e32⟩
     obtain rfl := hS.on k3
     dsimp only [f36_b0] at hL
     refine r6 ?_
     refine r1 ?_
     refine cn hL ?_ ?_
     · intro hc hL
       refine r8 ?_
       refine WO.yldI gN rfl lk lks hS k5 hLO15 rfl rfl ?_
       refine r3 ?_
       refine AsK.sp hLO15 hS k5 ?_
       rintro h38 hS
       refine r4 ?_
       refine WO.hn gN rfl (s_bs (e := (rInt .i64)) hS und35 size3 zero3 rfl rfl rfl (evp_cons lk evp_nil) rfl [((), v31)] rfl (xs := [v31]) rfl (by intro q hq; simp only [List.mem_cons, List.not_mem_nil, or_false] at hq; subst hq; exact trivial) rfl) ?_
       rintro _ h40 ⟨b39, eb39, rfl, hS⟩
       obtain ⟨z41, hz41, hL⟩ := bind_some hL
       refine WO.hv gN rfl (s_ap (e := (rInt .i64)) hS k5 app35_35 lk lk (hS.osrc k0) (hS.on k0) hz41) ?_
       rintro _ h44 ⟨a42, c43, rfl, hS⟩
       refine r1 ?_
       rintro h45 hS
       refine r2 ?_
       refine BdK.sp hLO15 hS k3 ?_
       rintro h46 hS
       refine r3 ?_
       refine cn hL ?_ ?_
       · intro hc hL
         refine r4 ?_
         refine r1 ?_
         exact RetK.gen (vs := []) rfl ares_nil rfl ⟨_, hL, ⟨a42, c43, z41.length, rfl, hS.only (.c k4 (.c k5 (.c k2 (.c k1 (.c k2 (.c k0 (.c k1 .n)))))))⟩⟩
       · intro hc hL
         refine r6 ?_
         refine r1 ?_
         obtain ⟨x47, hx47, hL⟩ := bind_some hL
         obtain ⟨b48, o49, _, hab48, hAb48, hBb48, hFb48⟩ := Sl.at_ hsp0_0 hx47
         refine WO.w gN rfl (av_ixn und22 size66 lk lk rfl hab48 hx47) ?_
         refine r1 ?_
         refine WO.w gN rfl (av_ld agg3 (evT fh rfl) (At.fz hS.fz hBb48 hAb48) (j := 1) rfl (v := .int .i64 x47.in_) rfl) ?_
         refine r2 ?_
         exact LoopK.nrm (hnext37 _ _ hL ⟨_, _, a42, c43, z41.length, rfl, hS.only (.c k4 (.c k4 (.c k4 (.c k2 (.c k1 (.c k0 (.c k1 .n))))))), las⟩)
     · intro hc hL
       refine r4 ?_
       refine RetK.nrm ?_
       exact RetK.gen (vs := []) rfl ares_nil rfl ⟨_, hL, ⟨a34, c35, v33.length, rfl, hS.only (.c k0 (.c k1 (.c k1 (.c k1 (.c k0 (.c k0 (.c k0 .n)))))))⟩⟩
theorem f37_wf {F : Nat} {wm : Nat} {h : H} {p0 : TollSetup} {p1 : Int} {pa0_0 : Option Addr} {pc0_0 : Nat} {r : (List Int)} (hwm : wm ≤ h.size) (hsp0_0 : Sl rTollSpot wm h pa0_0 pc0_0 p0.spots) (hL : f37L F p0 p1 = some r) :
    WR XX 37 #[.agg [.int .i64 p0.machines, .slice pa0_0 p0.spots.length pc0_0].toArray, .int .i64 p1] wm h (CP (fun (v : Value) (Gb : List (Ast wm)) => ∃ (ra0_0 : Option Addr) (rn0_0 : Nat) (rc0_0 : Nat), v = .slice ra0_0 rn0_0 rc0_0 ∧ Gb = [ow wm (rInt .i64) ra0_0 rn0_0 rc0_0 r]) [] h) := by
 refine bg Tryz.ntmps37 hwm Hold.nil ?_
 intro T hT hS
 unfold f37L at hL
 refine r3 ?_
 rintro _ h2 ⟨b1, eb1, rfl, hS⟩
 refine r16 ?_
 refine r2 ?_
 have hS := hS.nil (e := (rInt .i64))
 refine WC.loop (WL.lift hL (fun (p : (List Int) × Int) (s : Fs) => match p with | (v7, v13) => ∃ (fr4 : Fr) (h3 : H) (a8 : Option Addr) (c9 : Nat) (n10 : Nat), s = ⟨fr4, [], h3, none⟩ ∧ Sp wm T h [ow wm (rInt .i64) a8 n10 c9 v7, bx wm b1 [.int .i64 p0.machines, .slice pa0_0 p0.spots.length pc0_0]] h3 ∧ fr4.at 1 = .int .i64 p1 ∧ fr4.at 2 = .pointer (some ⟨b1, 0, none⟩) ∧ fr4.at 5 = .slice a8 n10 c9 ∧ fr4.at 9 = .int .i64 (p0.spots.length : Int) ∧ fr4.at 10 = .int .i64 v13) ⟨_, _, none, 0, 0, rfl, hS.only (.c k0 (.c k0 .n)), las⟩ ?_)
 clear hL hS
 rintro next15 ⟨v7, v13⟩ s hnext15 hL ⟨fr4, h3, a8, c9, n10, rfl, hS, e5, e6, e11, e12, e14⟩
 obtain rfl := hS.on k0
 dsimp only [f37_b0] at hL
 refine r6 ?_
 refine cn hL ?_ ?_
 · intro hc hL
   refine r2 ?_
   refine WC.seqJ (r := r) (fun (v20 : (List Int)) (s : Fs) => ∃ (fr17 : Fr) (h16 : H) (a21 : Option Addr) (c22 : Nat) (n23 : Nat), s = ⟨fr17, [], h16, none⟩ ∧ Sp wm T h [ow wm (rInt .i64) a21 n23 c22 v20, bx wm b1 [.int .i64 p0.machines, .slice pa0_0 p0.spots.length pc0_0]] h16 ∧ fr17.at 1 = .int .i64 p1 ∧ fr17.at 2 = .pointer (some ⟨b1, 0, none⟩) ∧ fr17.at 5 = .slice a21 n23 c22 ∧ fr17.at 9 = .int .i64 (p0.spots.length : Int) ∧ fr17.at 10 = .int .i64 v13) (f37_j0 v13 next15) ?_ ?_
   · clear hL hS
     rintro v20 s hL ⟨fr17, h16, a21, c22, n23, rfl, hS, e18, e19, e24, e25, e26⟩
     obtain rfl := hS.on k0
     dsimp only [f37_j0] at hL
     refine r4 ?_
     exact LoopK.nrm (hnext15 _ _ hL ⟨_, _, a21, c22, v20.length, rfl, hS.only (.c k0 (.c k0 .n)), las⟩)
   · skip
     refine r12 ?_
     obtain ⟨x27, hx27, hL⟩ := bind_some hL
     refine WO.cp gN rfl (Ent.fn has31 (evs_cons lk (evs_cons lk (evs_cons lk evs_nil)))) (f31_ok (hS.slu hsp0_0) hx27) ?_
     refine r2 ?_
     refine cn hL ?_ ?_
     · intro hc hL
       refine r3 ?_
       refine WO.hn gN rfl (s_bs (e := (rInt .i64)) hS und35 size3 zero3 rfl rfl rfl (evp_cons lk evp_nil) rfl [((), v13)] rfl (xs := [v13]) rfl (by intro q hq; simp only [List.mem_cons, List.not_mem_nil, or_false] at hq; subst hq; exact trivial) rfl) ?_
       rintro _ h29 ⟨b28, eb28, rfl, hS⟩
       obtain ⟨z30, hz30, hL⟩ := bind_some hL
       refine WO.hv gN rfl (s_ap (e := (rInt .i64)) hS k1 app35_35 lk lk (hS.osrc k0) (hS.on k0) hz30) ?_
       rintro _ h33 ⟨a31, c32, rfl, hS⟩
       refine r3 ?_
       exact SeqJ.nrm _ hL ⟨_, _, a31, c32, z30.length, rfl, hS.only (.c k0 (.c k1 .n)), las⟩
     · intro hc hL
       refine r2 ?_
       exact SeqJ.nrm _ hL ⟨_, _, a8, c9, v7.length, rfl, hS.only (.c k0 (.c k0 .n)), las⟩
 · intro hc hL
   refine r12 ?_
   have hr := Option.some.inj hL
   subst hr
   exact RetK.gen1 rfl (ares_tmp lk ares_nil) ⟨_, ⟨a8, v7.length, c9, rfl, rfl⟩, hT ▸ hS.only (.c k0 .n)⟩
end Go.Proofs.YtcnahmgekicbdaaGreat
end
end
section
set_option linter.unusedVariables false
set_option linter.unusedSimpArgs false
namespace Go.Proofs.YtcnahmgekicbdaaGreat
open Go.Lf
end Go.Proofs.YtcnahmgekicbdaaGreat
end
section
set_option linter.unusedVariables false
set_option linter.unusedSimpArgs false
set_option maxRecDepth 20000
noncomputable section
namespace Go.Proofs.YtcnahmgekicbdaaGreat
open Go.Abs Go.Lf
end Go.Proofs.YtcnahmgekicbdaaGreat
end
end
