/- Ends Part 9 of the proof. -/
import Derived.Shelf.Sort.Plain
import Derived.Test.YtbmbbcaaimehkaaGreatEa8
set_option linter.all false
set_option maxHeartbeats 2000000
section
noncomputable section
namespace Go.Abs
open Go.Lf
def SortC (P : Program) (f : FuncId) : Prop := ∀ (blk off cap : Nat) (zs : List Int) (w : World), Go.Sort.Holds (Value.int .i64) w blk off zs.toArray → blk < w.heap.size → zs.length < 4611686018427387904 →
  Calls P f #[.slice (some ⟨blk, off, none⟩) zs.length cap] w fun e w' => e = .returned (.tuple #[]) ∧ ∃ n os, w' = Go.Sort.grow (Go.Sort.putRow (Value.int .i64) (Go.Sort.ahead w n) blk off (zs.mergeSort fun x y => decide (x ≤ y)).toArray) os
def rowPut (cs : List Value) (o : Nat) (ys : List Int) : List Value := cs.mapIdx fun k x => if o ≤ k ∧ k < o + ys.length then .int .i64 (ys.getD (k - o) 0) else x
theorem rowPut_len (cs : List Value) (o : Nat) (ys : List Int) : (rowPut cs o ys).length = cs.length := by simp [rowPut]
theorem rowPut_get (cs : List Value) (o : Nat) (ys : List Int) (k : Nat) : (rowPut cs o ys)[k]? = cs[k]?.map fun x => if o ≤ k ∧ k < o + ys.length then .int .i64 (ys.getD (k - o) 0) else x := by simp [rowPut]
variable {X : Ctx} {f : FuncId} {wm wm0 : Nat} {h : H} {i o c : Nat} {cs : List Value} {xs : List Int}
theorem rInt_get (he : ElAt (rInt .i64) wm0 h cs o xs) {j : Nat} (hj : j < xs.length) : cs[o + j]? = some (.int .i64 xs[j]) := by
  obtain ⟨q, h1, _⟩ := he.get j xs[j] (List.getElem?_eq_getElem hj)
  have h1 : (cs.drop (o + j * 1)).take 1 = [.int .i64 xs[j]] := h1
  rw [Nat.mul_one] at h1
  have := congrArg (fun l => l[0]?) h1
  simpa [List.getElem?_take, List.getElem?_drop] using this
theorem sort_job (SC : SortC X.P f) (hat : h.at i = .row cs true 1) (hw : wm ≤ i) (he : ElAt (rInt .i64) wm0 h cs o xs) (hne : 0 < xs.length) (hlen : xs.length < 4611686018427387904) :
    JobOK X (.call f #[.slice (some ⟨i, o, none⟩) xs.length c] wm h) (.fin (.ret (.tuple #[])) (h.put i (.row (rowPut cs o (xs.mergeSort fun x y => decide (x ≤ y))) true 1))) := by
  intro ρ args' w hwm rel hv
  obtain ⟨hsz, hvv⟩ := hv
  have hsz : args'.size = 1 := hsz.symm
  obtain ⟨v', rfl⟩ : ∃ v', args' = #[v'] := ⟨args'[0], by
    apply Array.ext
    · simpa using hsz
    · intro k h1 h2; have : k = 0 := by omega
      subst this; rfl⟩
  have hvr := hvv 0 _ _ rfl rfl
  generalize hn : xs.length = n at hvr
  cases hvr with
  | sliceE => omega
  | @slice _ b d _ _ _ c' hρ hc =>
    subst hn
    have hb := (rel.dom i b d hρ).2
    have hil := (rel.dom i b d hρ).1
    have hob := rel.obj i b d hρ
    rw [hat] at hob
    obtain ⟨cc, el, fz, hcc, hfz, hdl, hcv⟩ := hob
    obtain ⟨hfz1, hfz2⟩ := hfz rfl
    subst hfz1
    have hlenE : o + xs.length * 1 ≤ cs.length := he.len
    have hcell : ∀ j (hj : j < xs.length), cc[d + (o + j)]? = some (.int .i64 xs[j]) := fun j hj => by
      have hk : d + (o + j) < cc.size := by omega
      have := hcv (o + j) _ cc[d + (o + j)] (rInt_get he hj) (Array.getElem?_eq_getElem hk)
      rw [Array.getElem?_eq_getElem hk]
      cases hx : cc[d + (o + j)] <;> rw [hx] at this <;> cases this
      rfl
    have hH : Go.Sort.Holds (Value.int .i64) w b (d + o) xs.toArray := by
      intro j hj
      have hj' : j < xs.length := by simpa using hj
      refine ⟨?_, by simp [World.frozen?, hcc]⟩
      have h1 := hcell j hj'
      simp only [World.cell?, hcc]
      simp only [Option.isSome_none, Bool.false_eq_true, if_false]
      rw [show d + o + j = d + (o + j) by omega, h1]
      simp [hj']
    refine callsIn_wide.2 ((SC b (d + o) c' xs w hH hb hlen).mono ?_)
    rintro e w' ⟨rfl, n, os, rfl⟩
    generalize hys : (xs.mergeSort fun x y => decide (x ≤ y)) = ys
    have hyl : ys.length = xs.length := by rw [← hys, List.length_mergeSort]
    have hheap : ∀ b', b' < w.heap.size → (Go.Sort.grow (Go.Sort.putRow (Value.int .i64) (Go.Sort.ahead w n) b (d + o) ys.toArray) os).heap[b']? = if b = b' then (w.heap[b']?).map (Go.Sort.onCells (Go.Sort.putCells (Value.int .i64) (d + o) ys.toArray)) else w.heap[b']? := fun b' hb' => by
      have hs : b' < (w.heap.modify b (Go.Sort.onCells (Go.Sort.putCells (Value.int .i64) (d + o) ys.toArray))).size := by simpa using hb'
      simp only [Go.Sort.grow, Go.Sort.putRow, Go.Sort.mapBlock, Go.Sort.ahead]
      rw [Array.getElem?_append_left hs, Array.getElem?_modify]
    have hsame : ∀ b', b' < w.heap.size → b' ≠ b → (Go.Sort.grow (Go.Sort.putRow (Value.int .i64) (Go.Sort.ahead w n) b (d + o) ys.toArray) os).heap[b']? = w.heap[b']? := fun b' hb' hne' => by rw [hheap b' hb', if_neg (fun q => hne' q.symm)]
    have hsize : w.heap.size ≤ (Go.Sort.grow (Go.Sort.putRow (Value.int .i64) (Go.Sort.ahead w n) b (d + o) ys.toArray) os).heap.size := by simp [Go.Sort.grow, Go.Sort.putRow, Go.Sort.mapBlock, Go.Sort.ahead]
    have hat' : ∀ j, (h.put i (.row (rowPut cs o ys) true 1)).at j = if j = i then .row (rowPut cs o ys) true 1 else h.at j := fun j => by
      rw [H.at_put]
      by_cases e : j = i
      · subst e; rw [if_pos ⟨rfl, hil⟩, if_pos rfl]
      · rw [if_neg (fun q => e q.1), if_neg e]
    have hdead : ∀ j d', ρ j = some (b, d') → j ≠ i → (h.at j).live = false := fun j d' hj hji => by
      cases hl : (h.at j).live with
      | false => rfl
      | true => exact absurd (rel.inj i j b d d' hρ hj (by rw [hat]; rfl) hl).symm hji
    refine ⟨ρ, .ret (.tuple _ _ rfl fun k v v' e => by simp at e), ⟨fun j b' d' hj => ⟨(rel.dom j b' d' hj).1, Nat.lt_of_lt_of_le (rel.dom j b' d' hj).2 hsize⟩, fun j b' d' hj => ?_, fun j k b' d1 d2 h1 h2 h3 h4 => ?_⟩, ?_⟩
    · rw [hat']
      by_cases e : j = i
      · subst e
        rw [hρ] at hj; cases hj
        rw [if_pos rfl]
        refine ⟨Go.Sort.putCells (Value.int .i64) (d + o) ys.toArray cc, el, (0, 0), ?_, fun _ => ⟨rfl, fun hz => ?_⟩, ?_, fun k v v' e1 e2 => ?_⟩
        · rw [hheap b hb, if_pos rfl, hcc]; rfl
        · rw [hfz2 hz]; simp [Go.Sort.putCells]
        · rw [rowPut_len]; simpa [Go.Sort.putCells] using hdl
        · rw [rowPut_get] at e1
          obtain ⟨v0, e0, rfl⟩ := Option.map_eq_some_iff.1 e1
          have hkl : k < cs.length := (List.getElem?_eq_some_iff.1 e0).1
          have hkc : d + k < cc.size := by omega
          have e3 : (Go.Sort.putCells (Value.int .i64) (d + o) ys.toArray cc)[d + k]? = some (if d + o ≤ d + k ∧ d + k < d + o + ys.length then .int .i64 ys.toArray[d + k - (d + o)]! else cc[d + k]) := by
            simp [Go.Sort.putCells, Array.getElem?_eq_getElem hkc]
          rw [e3] at e2
          cases e2
          by_cases hin : o ≤ k ∧ k < o + ys.length
          · rw [if_pos hin, if_pos (by omega)]
            have : ys.toArray[d + k - (d + o)]! = ys.getD (k - o) 0 := by
              rw [show d + k - (d + o) = k - o by omega]
              have hlt : k - o < ys.length := by omega
              simp [hlt]
            rw [this]; exact .int _ _
          · rw [if_neg hin, if_neg (by omega)]
            exact hcv k v0 _ e0 (Array.getElem?_eq_getElem hkc)
      · rw [if_neg e]
        by_cases eb : b' = b
        · subst eb
          have := hdead j d' hj e
          cases hh : h.at j with
          | dead => trivial
          | row _ _ _ => rw [hh] at this; cases this
          | map _ _ => rw [hh] at this; cases this
          | loop _ _ _ _ _ _ _ _ => rw [hh] at this; cases this
          | deferred => rw [hh] at this; cases this
          | strIter _ _ => rw [hh] at this; cases this
          | iter _ _ _ _ => rw [hh] at this; cases this
          | iterNil => rw [hh] at this; cases this
        · exact (rel.obj j b' d' hj).world (hsame b' (rel.dom j b' d' hj).2 eb)
    · rw [hat'] at h3 h4
      refine rel.inj j k b' d1 d2 h1 h2 ?_ ?_
      · by_cases e : j = i
        · subst e; rw [hat]; rfl
        · rwa [if_neg e] at h3
      · by_cases e : k = i
        · subst e; rw [hat]; rfl
        · rwa [if_neg e] at h4
    · refine ⟨Ren.le_refl ρ, Nat.le_refl _, fun j hj => ?_, fun j hj hx => ?_, fun j hj hx => ?_, rfl, rfl, rfl, hsize, fun b' hb' hno => ?_, fun j b' d' e e' => by rw [e] at e'; cases e'⟩
      · rw [hat', if_neg (by omega)]
      · rw [hat'] at hx
        by_cases e : j = i
        · subst e; rw [hat]; rfl
        · rwa [if_neg e] at hx
      · rw [hat'] at hx
        by_cases e : j = i
        · subst e; rw [hat]; rfl
        · rwa [if_neg e] at hx
      · exact hsame b' hb' fun q => hno i d hw (by rw [q]; exact hρ) (by rw [hat]; rfl)
theorem sort_wr (SC : SortC X.P f) (H0 : ∀ (wm : Nat) (h : H) (a : Option Addr) (c : Nat), JobOK X (.call f #[.slice a 0 c] wm h) (.fin (.ret (.tuple #[])) h)) {a : Option Addr} {n : Nat} (hlen : xs.length < 4611686018427387904)
    (hwm : wm ≤ h.size) (hO : Hold (wm := wm) [ow wm (rInt .i64) a n c xs] h) :
    WR X f #[.slice a n c] wm h (CP (fun (v : Value) (Gb : List (Ast wm)) => v = .tuple [].toArray ∧ Gb = [ow wm (rInt .i64) a n c (xs.mergeSort fun x y => decide (x ≤ y))]) [ow wm (rInt .i64) a n c xs] h) := by
  have hP : (ow wm (rInt .i64) a n c xs).P h := hO.all _ (by simp)
  obtain ⟨hn, so⟩ := hP
  have s0 : Sp wm (Fps [ow wm (rInt .i64) a n c xs]) h [ow wm (rInt .i64) a n c xs] h := Sp.start hwm hO
  have empty : xs = [] → WR X f #[.slice a n c] wm h (CP (fun (v : Value) (Gb : List (Ast wm)) => v = .tuple [].toArray ∧ Gb = [ow wm (rInt .i64) a n c (xs.mergeSort fun x y => decide (x ≤ y))]) [ow wm (rInt .i64) a n c xs] h) := fun e => by
    subst e
    have hn : n = 0 := hn
    subst hn
    exact ⟨_, h, ⟨_, rfl, _, ⟨rfl, rfl⟩, by simpa using s0⟩, H0 wm h a c⟩
  rcases so.mem with ⟨_, _, h3⟩ | ⟨i, o, cs, rfl, h2, h3, h4, h5, h6⟩
  · exact empty h3
  · rcases Nat.eq_zero_or_pos xs.length with z | z
    · exact empty (List.length_eq_zero_iff.1 z)
    · subst hn
      have h3 : h.at i = .row cs true 1 := h3
      have hj := sort_job (c := c) SC h3 h2 h6 z hlen
      refine ⟨_, _, ⟨_, rfl, _, ⟨rfl, rfl⟩, ?_⟩, hj⟩
      have hil : i < h.size := live_lt h3 rfl
      have hu : Up wm (BaseA (some ⟨i, o, none⟩)) h (h.put i (.row (rowPut cs o (xs.mergeSort fun x y => decide (x ≤ y))) true 1)) :=
        let u := Up.put (lo := wm) (A := .row (rowPut cs o (xs.mergeSort fun x y => decide (x ≤ y))) true 1) h2 (show (h.at i).own = true by rw [h3]; rfl)
        ⟨u.size, fun j hj hn => u.keep j hj fun e => hn ⟨o, by rw [e]⟩, fun j ⟨o', e⟩ => by cases e; exact ⟨h2, by rw [h3]; rfl⟩⟩
      refine s0.one .z hu (fun j q => q) ⟨?_, ?_, .inr ⟨i, o, _, rfl, h2, at_put_same hil _, ?_, ?_, ?_⟩⟩ fun j q => .inl q
      · rw [List.length_mergeSort]
      · rw [List.length_mergeSort]; exact so.max
      · rw [List.length_mergeSort]; exact h4
      · rw [rowPut_len]; exact h5
      · refine ⟨?_, fun k x hk => ⟨(), ?_, trivial⟩⟩
        · rw [rowPut_len, List.length_mergeSort]; exact h6.len
        · have hkl : k < (xs.mergeSort fun x y => decide (x ≤ y)).length := (List.getElem?_eq_some_iff.1 hk).1
          have hl : o + xs.length * 1 ≤ cs.length := h6.len
          have hkl2 : k < xs.length := by rwa [List.length_mergeSort] at hkl
          show ((rowPut cs o _).drop (o + k * 1)).take 1 = [.int .i64 x]
          rw [Nat.mul_one]
          apply List.ext_getElem?
          intro j
          cases j with
          | zero =>
            rw [List.getElem?_take_of_lt (by omega), List.getElem?_drop, Nat.add_zero, rowPut_get, List.getElem?_eq_getElem (show o + k < cs.length by omega)]
            simp only [Option.map_some, List.getElem?_cons_zero]
            rw [if_pos (by omega), show o + k - o = k by omega, List.getD_eq_getElem?_getD, hk]; rfl
          | succ j => rw [List.getElem?_take_eq_none (by omega)]; simp
end Go.Abs
end
end
section
set_option maxRecDepth 100000
noncomputable section
namespace Go.Proofs.YtbmbbcaaimehkaaGreat
open Go.Abs Go.Lf
def layRen : Go.Shelf.Ren := ⟨fun | 189 => 94 | 125 => 108 | 257 => 107 | 128 => 119 | 129 => 120 | 294 => 110 | 295 => 111 | 296 => 112 | 297 => 113 | 298 => 114 | 299 => 115 | 216 => 116 | 300 => 117 | 301 => 118 | 328 => 121 | 329 => 122 | 330 => 123 | 331 => 124 | 332 => 125 | 215 => 126 | 343 => 127 | n => n, fun | 28 => 22 | 3 => 3 | 46 => 155 | 0 => 0 | 51 => 165 | 53 => 167 | 4 => 4 | 183 => 159 | 182 => 158 | 131 => 69 | 5 => 5 | 9 => 9 | 218 => 168 | 222 => 172 | 228 => 174 | 229 => 175 | n => n, fun n => n⟩
theorem layOk : Lays.n189 Tryz.prog layRen := {
  mixed := by kernel_rfl,
  f125 := Tryz.func108.trans (congrArg some (by kernel_rfl)),
  f128 := Tryz.func119.trans (congrArg some (by kernel_rfl)),
  f129 := Tryz.func120.trans (congrArg some (by kernel_rfl)),
  f189 := Tryz.func94.trans (congrArg some (by kernel_rfl)),
  f215 := Tryz.func126.trans (congrArg some (by kernel_rfl)),
  f216 := Tryz.func116.trans (congrArg some (by kernel_rfl)),
  f257 := Tryz.func107.trans (congrArg some (by kernel_rfl)),
  f294 := Tryz.func110.trans (congrArg some (by kernel_rfl)),
  f295 := Tryz.func111.trans (congrArg some (by kernel_rfl)),
  f296 := Tryz.func112.trans (congrArg some (by kernel_rfl)),
  f297 := Tryz.func113.trans (congrArg some (by kernel_rfl)),
  f298 := Tryz.func114.trans (congrArg some (by kernel_rfl)),
  f299 := Tryz.func115.trans (congrArg some (by kernel_rfl)),
  f300 := Tryz.func117.trans (congrArg some (by kernel_rfl)),
  f301 := Tryz.func118.trans (congrArg some (by kernel_rfl)),
  f328 := Tryz.func121.trans (congrArg some (by kernel_rfl)),
  f329 := Tryz.func122.trans (congrArg some (by kernel_rfl)),
  f330 := Tryz.func123.trans (congrArg some (by kernel_rfl)),
  f331 := Tryz.func124.trans (congrArg some (by kernel_rfl)),
  f332 := Tryz.func125.trans (congrArg some (by kernel_rfl)),
  f343 := Tryz.func127.trans (congrArg some (by kernel_rfl)),
  t0 := Tryz.underlying0,
  a0 := Tryz.isAgg0,
  z0 := Tryz.sizeOf0,
  v0 := Tryz.zeroValue0,
  t3 := Tryz.underlying3,
  a3 := Tryz.isAgg3,
  z3 := Tryz.sizeOf3,
  v3 := Tryz.zeroValue3,
  t4 := Tryz.underlying4,
  a4 := Tryz.isAgg4,
  z4 := Tryz.sizeOf4,
  v4 := Tryz.zeroValue4,
  t5 := Tryz.underlying5,
  a5 := Tryz.isAgg5,
  z5 := Tryz.sizeOf5,
  v5 := Tryz.zeroValue5,
  t9 := Tryz.underlying9,
  a9 := Tryz.isAgg9,
  z9 := Tryz.sizeOf9,
  v9 := Tryz.zeroValue9,
  t28 := Tryz.underlying22,
  a28 := Tryz.isAgg22,
  z28 := Tryz.sizeOf22,
  v28 := Tryz.zeroValue22,
  t46 := Tryz.underlying155,
  a46 := Tryz.isAgg155,
  z46 := Tryz.sizeOf155,
  v46 := Tryz.zeroValue155,
  t51 := Tryz.underlying165,
  a51 := Tryz.isAgg165,
  z51 := Tryz.sizeOf165,
  v51 := Tryz.zeroValue165,
  t53 := Tryz.underlying167,
  a53 := Tryz.isAgg167,
  z53 := Tryz.sizeOf167,
  v53 := Tryz.zeroValue167,
  t131 := Tryz.underlying69,
  a131 := Tryz.isAgg69,
  z131 := Tryz.sizeOf69,
  v131 := Tryz.zeroValue69,
  t182 := Tryz.underlying158,
  a182 := Tryz.isAgg158,
  z182 := Tryz.sizeOf158,
  v182 := Tryz.zeroValue158,
  t183 := Tryz.underlying159,
  a183 := Tryz.isAgg159,
  z183 := Tryz.sizeOf159,
  v183 := Tryz.zeroValue159,
  t218 := Tryz.underlying168,
  a218 := Tryz.isAgg168,
  z218 := Tryz.sizeOf168,
  v218 := Tryz.zeroValue168,
  t222 := Tryz.underlying172,
  a222 := Tryz.isAgg172,
  z222 := Tryz.sizeOf172,
  v222 := Tryz.zeroValue172,
  t228 := Tryz.underlying174,
  a228 := Tryz.isAgg174,
  z228 := Tryz.sizeOf174,
  v228 := Tryz.zeroValue174,
  t229 := Tryz.underlying175,
  a229 := Tryz.isAgg175,
  z229 := Tryz.sizeOf175,
  v229 := Tryz.zeroValue175 }
theorem sortC : SortC XX.P 94 := fun blk off cap zs w h1 h2 h3 => Any.slices_Sort_int layOk blk off cap zs w h1 h2 h3
theorem sort_nil (wm : Nat) (h : H) (a : Option Addr) (c : Nat) : JobOK XX (.call 94 #[.slice a 0 c] wm h) (.fin (.ret (.tuple #[])) h) := by
  have e : ev (cfg XX fun _ => false) 100 (.call 94 #[.slice a 0 c] wm h) = some (.fin (.ret (.tuple #[])) h) := by kernel_rfl
  exact run_sound (X := XX) mixed 100 _ _ e
theorem f94_wf {wm : Nat} {h : H} {p0 : List Int} {pa0_0 : Option Addr} {pc0_0 pn0_0 : Nat} {r : List Int} (hwm : wm ≤ h.size) (hO : Hold (wm := wm) [ow wm (rInt .i64) pa0_0 pn0_0 pc0_0 p0] h) (hL : f94L p0 = some r) :
    WR XX 94 #[.slice pa0_0 pn0_0 pc0_0] wm h (CP (fun (v : Value) (Gb : List (Ast wm)) => v = .tuple [].toArray ∧ Gb = [ow wm (rInt .i64) pa0_0 pn0_0 pc0_0 r]) [ow wm (rInt .i64) pa0_0 pn0_0 pc0_0 p0] h) := by
  unfold f94L at hL
  cases hb : Nat.ble p0.length 1000000 with
  | false => rw [hb] at hL; cases hL
  | true =>
    rw [hb] at hL
    cases hL
    have := Nat.le_of_ble_eq_true hb
    exact sort_wr sortC sort_nil (by omega) hwm hO
end Go.Proofs.YtbmbbcaaimehkaaGreat
end
end
section
set_option linter.unusedVariables false
set_option linter.unusedSimpArgs false
namespace Go.Proofs.YtbmbbcaaimehkaaGreat
open Go.Lf
def f67_j0 (v17 : Int) (next22 : (Int × Int × Int × Bool × Int → Option (Spot_ × Int))) : Int × Int × Bool × Int → Option (Spot_ × Int) := fun (v29, v34, v35, v36) =>
  next22 (v29, w64 (v17 + 1), v34, v35, v36)
def f67_j1 (v58 : Int) (next63 : (Int × Int × Int × Bool × Int → Option (Spot_ × Int))) : Int × Int × Bool × Int → Option (Spot_ × Int) := fun (v69, v74, v75, v76) =>
  next63 (v69, w64 (v58 + 1), v74, v75, v76)
def f67_j2 (v100 : Int) (next105 : (Int × Int × Int × Bool × Int → Option (Spot_ × Int))) : Int × Int × Bool × Int → Option (Spot_ × Int) := fun (v111, v120, v121, v122) =>
  next105 (v111, w64 (v100 + 1), v120, v121, v122)
def f67_b2 (p1 : Int) (v58 : Int) (next63 : (Int × Int × Int × Bool × Int → Option (Spot_ × Int))) (x77 : FerryLetter) : Int × Int × Int × Bool × Int → (Int × Int × Int × Bool × Int → Option (Spot_ × Int)) → Option (Spot_ × Int) := fun (v92, v100, v102, v103, v104) next105 =>
  (bif decide (v100 < (x77.places.length : Int)) then (geti x77.places v100).bind fun x123 => (bif (x123 == p1) then (geti x77.ages v100).bind fun x126 => (f67_j2 v100 next105) (w64 (v92 + 1), x77.to_, false, x126) else (f67_j2 v100 next105) (v92, v102, v103, v104)) else (f67_j1 v58 next63) (v92, v102, v103, v104))
def f67_b1 (F : Nat) (p0 : FerryWorld) (p1 : Int) : Int × Int × Int × Bool × Int → (Int × Int × Int × Bool × Int → Option (Spot_ × Int)) → Option (Spot_ × Int) := fun (v54, v58, v60, v61, v62) next63 =>
  (bif decide (v58 < (p0.wire.length : Int)) then (geti p0.wire v58).bind fun x77 => (bif (x77.kind != 2) then (f67_j1 v58 next63) (v54, v60, v61, v62) else loop F (f67_b2 p1 v58 next63 x77) (v54, 0, v60, v61, v62)) else some ((Spot_.mk v60 v61 v62), v54))
def f67_b0 (F : Nat) (p0 : FerryWorld) (p1 : Int) : Int × Int × Int × Bool × Int → (Int × Int × Int × Bool × Int → Option (Spot_ × Int)) → Option (Spot_ × Int) := fun (v13, v17, v19, v20, v21) next22 =>
  (bif decide (v17 < (p0.entries.length : Int)) then (geti p0.entries v17).bind fun x37 => (geti x37 p1).bind fun x42 => (bif x42.here then (geti x37 p1).bind fun x45 => (f67_j0 v17 next22) (w64 (v13 + 1), v17, true, x45.age) else (f67_j0 v17 next22) (v13, v19, v20, v21)) else loop F (f67_b1 F p0 p1) (v13, 0, v19, v20, v21))
def f67L (F : Nat) (p0 : FerryWorld) (p1 : Int) : Option (Spot_ × Int) :=
  loop F (f67_b0 F p0 p1) (0, 0, 0, false, 0)
def f68_b2 (p0 : FerryWorld) (v23 : Int) (next25 : (Int → Option Bool)) : Int × Int → (Int × Int → Option Bool) → Option Bool := fun (v33, v35) next40 =>
  (bif decide (v35 ≥ 0) then (bif decide ((w64 (v33 + 1)) > (p0.in_.length : Int)) then some false else (geti p0.in_ v35).bind fun x41 => (gd (!(decide (x41 < (-1)))) (geti p0.in_ v35) default).bind fun x44 => (bif ((decide (x41 < (-1))) || (decide (x44 ≥ (p0.in_.length : Int)))) then some false else (geti p0.in_ v35).bind fun x47 => next40 (w64 (v33 + 1), x47))) else next25 (w64 (v23 + 1)))
def f68_b1 (F : Nat) (p0 : FerryWorld) : Int → (Int → Option Bool) → Option Bool := fun v23 next25 =>
  (bif decide (v23 < (p0.in_.length : Int)) then (geti p0.in_ v23).bind fun x26 => (bif ((decide (x26 < (-1))) || (decide (x26 ≥ (p0.in_.length : Int)))) then some false else loop F (f68_b2 p0 v23 next25) (0, v23)) else some true)
def f68_b0 (F : Nat) (p0 : FerryWorld) : Int → (Int → Option Bool) → Option Bool := fun v9 next11 =>
  (bif decide (v9 < (p0.entries.length : Int)) then (geti p0.entries v9).bind fun x12 => (bif ((x12.length : Int) != (p0.in_.length : Int)) then some false else next11 (w64 (v9 + 1))) else loop F (f68_b1 F p0) 0)
def f68L (F : Nat) (p0 : FerryWorld) : Option Bool :=
  (bif ((((((decide ((p0.entries.length : Int) < 1)) || (decide ((p0.entries.length : Int) > 5))) || (decide ((p0.in_.length : Int) < 1))) || (decide ((p0.in_.length : Int) > 8))) || ((p0.boxes.length : Int) != (p0.in_.length : Int))) || ((p0.held.length : Int) != (p0.entries.length : Int))) then some false else loop F (f68_b0 F p0) 0)
def f69_j0 (v8 : Int) (next10 : (Int → Option Bool)) : Unit → Option Bool := fun _ =>
  next10 (w64 (v8 + 1))
def f69_b1 (p0 : FerryWorld) (v8 : Int) (next10 : (Int → Option Bool)) (x17 : FerryLetter) : Int → (Int → Option Bool) → Option Bool := fun v46 next48 =>
  (bif decide (v46 < (x17.places.length : Int)) then (geti x17.places v46).bind fun x49 => (gd ((!((decide (x49 < 0)) || (decide (x49 ≥ (p0.in_.length : Int))))) && (decide (v46 > 0))) (geti x17.places (w64 (v46 - 1))) default).bind fun x52 => (gd (!(((decide (x49 < 0)) || (decide (x49 ≥ (p0.in_.length : Int)))) || ((decide (v46 > 0)) && (decide (x49 ≤ x52))))) (geti x17.ages v46) default).bind fun x55 => (gd (!((((decide (x49 < 0)) || (decide (x49 ≥ (p0.in_.length : Int)))) || ((decide (v46 > 0)) && (decide (x49 ≤ x52)))) || (decide (x55 < 1)))) (geti x17.ages v46) default).bind fun x58 => (bif (((((decide (x49 < 0)) || (decide (x49 ≥ (p0.in_.length : Int)))) || ((decide (v46 > 0)) && (decide (x49 ≤ x52)))) || (decide (x55 < 1))) || (decide (x58 > 30))) then some false else next48 (w64 (v46 + 1))) else (f69_j0 v8 next10) ())
def f69_j1 (F : Nat) (p0 : FerryWorld) (v8 : Int) (next10 : (Int → Option Bool)) (x17 : FerryLetter) : Bool → Option Bool := fun v35 =>
  (bif v35 then (f69_j0 v8 next10) () else (bif (x17.kind == 2) then (bif ((decide ((x17.places.length : Int) < 1)) || ((x17.ages.length : Int) != (x17.places.length : Int))) then some false else loop F (f69_b1 p0 v8 next10 x17) 0) else some false))
def f69_b0 (F : Nat) (p0 : FerryWorld) : Int → (Int → Option Bool) → Option Bool := fun v8 next10 =>
  (bif decide (v8 < (p0.wire.length : Int)) then (geti p0.wire v8).bind fun x17 => (bif (x17.kind == 1) then (f69_j1 F p0 v8 next10 x17) (x17.kind == 1) else (f69_j1 F p0 v8 next10 x17) (x17.kind == 3)) else some true)
def f69L (F : Nat) (p0 : FerryWorld) : Option Bool :=
  loop F (f69_b0 F p0) 0
def f72_b2 (v33 : Int) (next35 : ((List Int) × Int → Option Bool)) (x36 : (List FerryMail)) : (List Int) × Int → ((List Int) × Int → Option Bool) → Option Bool := fun (v44, v54) next56 =>
  (bif decide (v54 < (x36.length : Int)) then (geti x36 v54).bind fun x57 => (app 8 v44 [x57.msg]).bind fun z65 => next56 (z65, w64 (v54 + 1)) else next35 (v44, w64 (v33 + 1)))
def f72_j0 (v79 : Int) (next81 : ((List Int) × Int → Option Bool)) : (List Int) → Option Bool := fun v85 =>
  next81 (v85, w64 (v79 + 1))
def f72_b4 (p0 : Inspector) (x109 : (List Int)) : Int → (Int → Option Bool) → Option Bool := fun v118 next120 =>
  (bif decide (v118 < (x109.length : Int)) then (geti x109 v118).bind fun x121 => (bif (x121 != v118) then some false else next120 (w64 (v118 + 1))) else some ((x109.length : Int) == p0.ferryWorld.said))
def f72_b3 (F : Nat) (p0 : Inspector) : (List Int) × Int → ((List Int) × Int → Option Bool) → Option Bool := fun (v72, v79) next81 =>
  (bif decide (v79 < (p0.ferryWorld.wire.length : Int)) then (geti p0.ferryWorld.wire v79).bind fun x93 => (bif (x93.kind == 1) then (app 8 v72 [x93.mail.msg]).bind fun z105 => (f72_j0 v79 next81) z105 else (f72_j0 v79 next81) v72) else (f94L v72).bind fun x109 => loop F (f72_b4 p0 x109) 0)
def f72_b1 (F : Nat) (p0 : Inspector) : (List Int) × Int → ((List Int) × Int → Option Bool) → Option Bool := fun (v26, v33) next35 =>
  (bif decide (v33 < (p0.ferryWorld.held.length : Int)) then (geti p0.ferryWorld.held v33).bind fun x36 => loop F (f72_b2 v33 next35 x36) (v26, 0) else loop F (f72_b3 F p0) (v26, 0))
def f72_b0 (F : Nat) (p0 : Inspector) : (List Int) × Int → ((List Int) × Int → Option Bool) → Option Bool := fun (v4, v11) next13 =>
  (bif decide (v11 < (p0.ferryWorld.boxes.length : Int)) then (geti p0.ferryWorld.boxes v11).bind fun x14 => (app 8 v4 x14).bind fun z19 => next13 (z19, w64 (v11 + 1)) else loop F (f72_b1 F p0) (v4, 0))
def f72L (F : Nat) (p0 : Inspector) : Option Bool :=
  (bif ((decide (p0.ferryWorld.said < 0)) || (decide (p0.ferryWorld.said > 40))) then some false else loop F (f72_b0 F p0) ([], 0))
end Go.Proofs.YtbmbbcaaimehkaaGreat
end
section
set_option linter.unusedVariables false
set_option linter.unusedSimpArgs false
set_option maxRecDepth 20000
noncomputable section
namespace Go.Proofs.YtbmbbcaaimehkaaGreat
open Go.Abs Go.Lf
theorem f67_wf {F : Nat} {wm : Nat} {h : H} {p0 : FerryWorld} {p1 : Int} {pa0_0 : Option Addr} {pc0_0 : Nat} {pa0_1 : Option Addr} {pc0_1 : Nat} {pa0_2 : Option Addr} {pc0_2 : Nat} {pa0_3 : Option Addr} {pc0_3 : Nat} {pa0_4 : Option Addr} {pc0_4 : Nat} {r : (Spot_ × Int)} (hwm : wm ≤ h.size) (hsp0_0 : Sl (rInt .i64) wm h pa0_0 pc0_0 p0.in_) (hsp0_1 : Sl (rSl (rInt .i64)) wm h pa0_1 pc0_1 p0.boxes) (hsp0_2 : Sl (rSl rFerryEntry) wm h pa0_2 pc0_2 p0.entries) (hsp0_3 : Sl (rSl rFerryMail) wm h pa0_3 pc0_3 p0.held) (hsp0_4 : Sl rFerryLetter wm h pa0_4 pc0_4 p0.wire) (hL : f67L F p0 p1 = some r) :
    WR XX 67 #[.agg [.slice pa0_0 p0.in_.length pc0_0, .slice pa0_1 p0.boxes.length pc0_1, .slice pa0_2 p0.entries.length pc0_2, .slice pa0_3 p0.held.length pc0_3, .slice pa0_4 p0.wire.length pc0_4, .int .i64 p0.said].toArray, .int .i64 p1] wm h (CP (fun (v : Value) (Gb : List (Ast wm)) => v = .tuple [.agg [.int .i64 r.1.machine, .bool r.1.here, .int .i64 r.1.age].toArray, .int .i64 r.2].toArray ∧ Gb = []) [] h) := by
 refine bg Tryz.ntmps67 hwm Hold.nil ?_
 intro T hT hS
 unfold f67L at hL
 refine r3 ?_
 rintro _ h2 ⟨b1, eb1, rfl, hS⟩
 refine r1 ?_
 rintro _ h4 ⟨b3, eb3, rfl, hS⟩
 refine r6 ?_
 rintro _ h6 ⟨b5, eb5, rfl, hS⟩
 refine r16 ?_
 refine r1 ?_
 refine WC.loop (WL.lift hL (fun (p : Int × Int × Int × Bool × Int) (s : Fs) => match p with | (v13, v17, v19, v20, v21) => ∃ (fr8 : Fr) (h7 : H), s = ⟨fr8, [], h7, none⟩ ∧ Sp wm T h [bx wm b1 [.slice pa0_0 p0.in_.length pc0_0, .slice pa0_1 p0.boxes.length pc0_1, .slice pa0_2 p0.entries.length pc0_2, .slice pa0_3 p0.held.length pc0_3, .slice pa0_4 p0.wire.length pc0_4, .int .i64 p0.said], bx wm b3 [.int .i64 0, .bool false, .int .i64 0], bx wm b5 [.int .i64 v19, .bool v20, .int .i64 v21]] h7 ∧ fr8.at 1 = .int .i64 p1 ∧ fr8.at 2 = .pointer (some ⟨b1, 0, none⟩) ∧ fr8.at 4 = .pointer (some ⟨b3, 0, none⟩) ∧ fr8.at 6 = .pointer (some ⟨b5, 0, none⟩) ∧ fr8.at 7 = .int .i64 v13 ∧ fr8.at 15 = .slice pa0_2 p0.entries.length pc0_2 ∧ fr8.at 16 = .int .i64 (p0.entries.length : Int) ∧ fr8.at 17 = .int .i64 v17) ⟨_, _, rfl, hS.only (.c k2 (.c k1 (.c k0 .n))), las⟩ ?_)
 clear hL hS
 rintro next22 ⟨v13, v17, v19, v20, v21⟩ s hnext22 hL ⟨fr8, h7, rfl, hS, e9, e10, e11, e12, e14, e15, e16, e18⟩
 dsimp only [f67_b0] at hL
 refine r6 ?_
 refine cn hL ?_ ?_
 · intro hc hL
   refine r2 ?_
   refine WC.seqJ (r := r) (fun (p : Int × Int × Bool × Int) (s : Fs) => match p with | (v29, v34, v35, v36) => ∃ (fr24 : Fr) (h23 : H), s = ⟨fr24, [], h23, none⟩ ∧ Sp wm T h [bx wm b1 [.slice pa0_0 p0.in_.length pc0_0, .slice pa0_1 p0.boxes.length pc0_1, .slice pa0_2 p0.entries.length pc0_2, .slice pa0_3 p0.held.length pc0_3, .slice pa0_4 p0.wire.length pc0_4, .int .i64 p0.said], bx wm b3 [.int .i64 0, .bool false, .int .i64 0], bx wm b5 [.int .i64 v34, .bool v35, .int .i64 v36]] h23 ∧ fr24.at 1 = .int .i64 p1 ∧ fr24.at 2 = .pointer (some ⟨b1, 0, none⟩) ∧ fr24.at 4 = .pointer (some ⟨b3, 0, none⟩) ∧ fr24.at 6 = .pointer (some ⟨b5, 0, none⟩) ∧ fr24.at 7 = .int .i64 v29 ∧ fr24.at 15 = .slice pa0_2 p0.entries.length pc0_2 ∧ fr24.at 16 = .int .i64 (p0.entries.length : Int) ∧ fr24.at 17 = .int .i64 v17) (f67_j0 v17 next22) ?_ ?_
   · clear hL hS
     rintro ⟨v29, v34, v35, v36⟩ s hL ⟨fr24, h23, rfl, hS, e25, e26, e27, e28, e30, e31, e32, e33⟩
     dsimp only [f67_j0] at hL
     refine r4 ?_
     exact LoopK.nrm (hnext22 _ _ hL ⟨_, _, rfl, hS.only (.c k0 (.c k0 (.c k0 .n))), las⟩)
   · skip
     refine r4 ?_
     obtain ⟨x37, hx37, hL⟩ := bind_some hL
     obtain ⟨b38, o39, ⟨a40, c41⟩, hab38, hAb38, hBb38, hFb38⟩ := Sl.at_ hsp0_2 hx37
     refine WO.w gN rfl (av_ixn und25 size64 lk lk rfl hab38 hx37) ?_
     have hsa40 : Sl rFerryEntry wm h a40 c41 x37 := hFb38
     refine WO.w gN rfl (av_ld agg64 (evT fh rfl) (At.fz hS.fz hBb38 hAb38) (j := 0) rfl (v := .slice a40 x37.length c41) rfl) ?_
     refine r8 ?_
     obtain ⟨x42, hx42, hL⟩ := bind_some hL
     obtain ⟨b43, o44, _, hab43, hAb43, hBb43, hFb43⟩ := Sl.at_ hsa40 hx42
     refine WO.w gN rfl (av_ixn und64 size63 lk lk rfl hab43 hx42) ?_
     refine r1 ?_
     refine WO.w gN rfl (av_ld agg4 (evT fh rfl) (At.fz hS.fz hBb43 hAb43) (j := 0) rfl (v := .bool x42.here) rfl) ?_
     refine r2 ?_
     refine cn hL ?_ ?_
     · intro hc hL
       refine r4 ?_
       refine r1 ?_
       obtain ⟨x45, hx45, hL⟩ := bind_some hL
       obtain ⟨b46, o47, _, hab46, hAb46, hBb46, hFb46⟩ := Sl.at_ hsa40 hx45
       refine WO.w gN rfl (av_ixn und64 size63 lk lk rfl hab46 hx45) ?_
       refine r1 ?_
       refine WO.w gN rfl (av_ld agg3 (evT fh rfl) (At.fz hS.fz hBb46 hAb46) (j := 2) rfl (v := .int .i64 x45.age) rfl) ?_
       refine WO.w gN rfl (av_bld bld120 (evp_cons lk (evp_cons lk (evp_cons lk evp_nil))) rfl (cs' := [.int .i64 v17, .bool true, .int .i64 x45.age]) rfl) ?_
       refine r1 ?_
       rintro h48 hS
       refine r8 ?_
       exact SeqJ.nrm _ hL ⟨_, _, rfl, hS.only (.c k1 (.c k1 (.c k0 .n))), las⟩
     · intro hc hL
       refine r2 ?_
       exact SeqJ.nrm _ hL ⟨_, _, rfl, hS.only (.c k0 (.c k0 (.c k0 .n))), las⟩
 · intro hc hL
   refine r12 ?_
   refine r3 ?_
   refine WC.loop (WL.lift hL (fun (p : Int × Int × Int × Bool × Int) (s : Fs) => match p with | (v54, v58, v60, v61, v62) => ∃ (fr50 : Fr) (h49 : H), s = ⟨fr50, [], h49, none⟩ ∧ Sp wm T h [bx wm b3 [.int .i64 0, .bool false, .int .i64 0], bx wm b5 [.int .i64 v60, .bool v61, .int .i64 v62]] h49 ∧ fr50.at 1 = .int .i64 p1 ∧ fr50.at 4 = .pointer (some ⟨b3, 0, none⟩) ∧ fr50.at 6 = .pointer (some ⟨b5, 0, none⟩) ∧ fr50.at 7 = .int .i64 v54 ∧ fr50.at 38 = .slice pa0_4 p0.wire.length pc0_4 ∧ fr50.at 39 = .int .i64 (p0.wire.length : Int) ∧ fr50.at 40 = .int .i64 v58) ⟨_, _, rfl, hS.only (.c k1 (.c k1 .n)), las⟩ ?_)
   clear hL hS
   rintro next63 ⟨v54, v58, v60, v61, v62⟩ s hnext63 hL ⟨fr50, h49, rfl, hS, e51, e52, e53, e55, e56, e57, e59⟩
   dsimp only [f67_b1] at hL
   refine r6 ?_
   refine cn hL ?_ ?_
   · intro hc hL
     refine r2 ?_
     refine WC.seqJ (r := r) (fun (p : Int × Int × Bool × Int) (s : Fs) => match p with | (v69, v74, v75, v76) => ∃ (fr65 : Fr) (h64 : H), s = ⟨fr65, [], h64, none⟩ ∧ Sp wm T h [bx wm b3 [.int .i64 0, .bool false, .int .i64 0], bx wm b5 [.int .i64 v74, .bool v75, .int .i64 v76]] h64 ∧ fr65.at 1 = .int .i64 p1 ∧ fr65.at 4 = .pointer (some ⟨b3, 0, none⟩) ∧ fr65.at 6 = .pointer (some ⟨b5, 0, none⟩) ∧ fr65.at 7 = .int .i64 v69 ∧ fr65.at 38 = .slice pa0_4 p0.wire.length pc0_4 ∧ fr65.at 39 = .int .i64 (p0.wire.length : Int) ∧ fr65.at 40 = .int .i64 v58) (f67_j1 v58 next63) ?_ ?_
     · clear hL hS
       rintro ⟨v69, v74, v75, v76⟩ s hL ⟨fr65, h64, rfl, hS, e66, e67, e68, e70, e71, e72, e73⟩
       dsimp only [f67_j1] at hL
       refine r4 ?_
       exact LoopK.nrm (hnext63 _ _ hL ⟨_, _, rfl, hS.only (.c k0 (.c k0 .n)), las⟩)
     · skip
       refine r3 ?_
       obtain ⟨x77, hx77, hL⟩ := bind_some hL
       obtain ⟨b78, o79, ⟨⟨a80, c81⟩, ⟨a82, c83⟩⟩, hab78, hAb78, hBb78, hFb78⟩ := Sl.at_ hsp0_4 hx77
       refine WO.w gN rfl (av_ixn und27 size95 lk lk rfl hab78 hx77) ?_
       have hsa80 : Sl (rInt .i64) wm h a80 c81 x77.places := hFb78.1
       have hsa82 : Sl (rInt .i64) wm h a82 c83 x77.ages := hFb78.2
       refine WO.w gN rfl (av_ldA agg95 size95 (evT fh rfl) (At.fz hS.fz hBb78 hAb78) (j := 0) rfl rfl (ws := [.int .i64 x77.kind, .int .i64 x77.to_, .int .i64 x77.mail.msg, .int .i64 x77.mail.place, .int .i64 x77.mail.from_, .int .i64 x77.mail.age, .int .i64 x77.mail.hops, .slice a80 x77.places.length c81, .slice a82 x77.ages.length c83, .int .i64 x77.place, .int .i64 x77.at_, .int .i64 x77.age]) rfl) ?_
       refine r1 ?_
       rintro _ h85 ⟨b84, eb84, rfl, hS⟩
       refine r1 ?_
       rintro h86 hS
       refine r8 ?_
       refine r2 ?_
       refine cn hL ?_ ?_
       · intro hc hL
         refine r3 ?_
         exact SeqJ.nrm _ hL ⟨_, _, rfl, hS.only (.c k1 (.c k1 .n)), las⟩
       · intro hc hL
         refine r8 ?_
         refine r3 ?_
         refine WC.loop (WL.lift hL (fun (p : Int × Int × Int × Bool × Int) (s : Fs) => match p with | (v92, v100, v102, v103, v104) => ∃ (fr88 : Fr) (h87 : H), s = ⟨fr88, [], h87, none⟩ ∧ Sp wm T h [bx wm b3 [.int .i64 0, .bool false, .int .i64 0], bx wm b5 [.int .i64 v102, .bool v103, .int .i64 v104], bx wm b84 [.int .i64 x77.kind, .int .i64 x77.to_, .int .i64 x77.mail.msg, .int .i64 x77.mail.place, .int .i64 x77.mail.from_, .int .i64 x77.mail.age, .int .i64 x77.mail.hops, .slice a80 x77.places.length c81, .slice a82 x77.ages.length c83, .int .i64 x77.place, .int .i64 x77.at_, .int .i64 x77.age]] h87 ∧ fr88.at 1 = .int .i64 p1 ∧ fr88.at 4 = .pointer (some ⟨b3, 0, none⟩) ∧ fr88.at 6 = .pointer (some ⟨b5, 0, none⟩) ∧ fr88.at 7 = .int .i64 v92 ∧ fr88.at 11 = .pointer (some ⟨b84, 0, none⟩) ∧ fr88.at 38 = .slice pa0_4 p0.wire.length pc0_4 ∧ fr88.at 39 = .int .i64 (p0.wire.length : Int) ∧ fr88.at 40 = .int .i64 v58 ∧ fr88.at 48 = .slice a80 x77.places.length c81 ∧ fr88.at 49 = .int .i64 (x77.places.length : Int) ∧ fr88.at 50 = .int .i64 v100) ⟨_, _, rfl, hS.only (.c k1 (.c k1 (.c k0 .n))), las⟩ ?_)
         clear hL hS
         rintro next105 ⟨v92, v100, v102, v103, v104⟩ s hnext105 hL ⟨fr88, h87, rfl, hS, e89, e90, e91, e93, e94, e95, e96, e97, e98, e99, e101⟩
         dsimp only [f67_b2] at hL
         refine r6 ?_
         refine cn hL ?_ ?_
         · intro hc hL
           refine r2 ?_
           refine WC.seqJ (r := r) (fun (p : Int × Int × Bool × Int) (s : Fs) => match p with | (v111, v120, v121, v122) => ∃ (fr107 : Fr) (h106 : H), s = ⟨fr107, [], h106, none⟩ ∧ Sp wm T h [bx wm b3 [.int .i64 0, .bool false, .int .i64 0], bx wm b5 [.int .i64 v120, .bool v121, .int .i64 v122], bx wm b84 [.int .i64 x77.kind, .int .i64 x77.to_, .int .i64 x77.mail.msg, .int .i64 x77.mail.place, .int .i64 x77.mail.from_, .int .i64 x77.mail.age, .int .i64 x77.mail.hops, .slice a80 x77.places.length c81, .slice a82 x77.ages.length c83, .int .i64 x77.place, .int .i64 x77.at_, .int .i64 x77.age]] h106 ∧ fr107.at 1 = .int .i64 p1 ∧ fr107.at 4 = .pointer (some ⟨b3, 0, none⟩) ∧ fr107.at 6 = .pointer (some ⟨b5, 0, none⟩) ∧ fr107.at 7 = .int .i64 v111 ∧ fr107.at 11 = .pointer (some ⟨b84, 0, none⟩) ∧ fr107.at 38 = .slice pa0_4 p0.wire.length pc0_4 ∧ fr107.at 39 = .int .i64 (p0.wire.length : Int) ∧ fr107.at 40 = .int .i64 v58 ∧ fr107.at 48 = .slice a80 x77.places.length c81 ∧ fr107.at 49 = .int .i64 (x77.places.length : Int) ∧ fr107.at 50 = .int .i64 v100) (f67_j2 v100 next105) ?_ ?_
           · clear hL hS
             rintro ⟨v111, v120, v121, v122⟩ s hL ⟨fr107, h106, rfl, hS, e108, e109, e110, e112, e113, e114, e115, e116, e117, e118, e119⟩
             dsimp only [f67_j2] at hL
             refine r4 ?_
             exact LoopK.nrm (hnext105 _ _ hL ⟨_, _, rfl, hS.only (.c k0 (.c k0 (.c k0 .n))), las⟩)
           · skip
             refine r4 ?_
             obtain ⟨x123, hx123, hL⟩ := bind_some hL
             obtain ⟨b124, o125, _, hab124, hAb124, hBb124, hFb124⟩ := Sl.at_ hsa80 hx123
             refine WO.w gN rfl (av_ixn und22 size3 lk lk rfl hab124 hx123) ?_
             refine WO.w gN rfl (av_ld agg3 (evT fh rfl) (At.fz hS.fz hBb124 hAb124) (j := 0) rfl (v := .int .i64 x123) rfl) ?_
             refine r8 ?_
             refine r3 ?_
             refine cn hL ?_ ?_
             · intro hc hL
               refine r1 ?_
               refine WC.drawX mixed (by kernel_rfl) ?_
               refine r4 ?_
               refine r1 ?_
               obtain ⟨x126, hx126, hL⟩ := bind_some hL
               obtain ⟨b127, o128, _, hab127, hAb127, hBb127, hFb127⟩ := Sl.at_ hsa82 hx126
               refine WX.w gN rfl (av_ixn und22 size3 lk lk rfl hab127 hx126) ?_ rfl
               refine WX.w gN rfl (av_ld agg3 (evT fh rfl) (At.fz hS.fz hBb127 hAb127) (j := 0) rfl (v := .int .i64 x126) rfl) ?_ rfl
               refine WX.w gN rfl (av_bld bld120 (evp_cons lk (evp_cons lk (evp_cons lk evp_nil))) rfl (cs' := [.int .i64 x77.to_, .bool false, .int .i64 x126]) rfl) ?_ rfl
               refine WX.hu gN (s_st hS k1 size120 lk lk (vs := [.int .i64 x77.to_, .bool false, .int .i64 x126]) rfl rfl rfl rfl (cs' := [.int .i64 x77.to_, .bool false, .int .i64 x126]) rfl) ?_ rfl rfl [] (by kernel_rfl) Blind.e
               rintro h129 hS
               refine r8 ?_
               exact SeqJ.nrm _ hL ⟨_, _, rfl, hS.only (.c k1 (.c k0 (.c k0 .n))), las⟩
             · intro hc hL
               refine r2 ?_
               exact SeqJ.nrm _ hL ⟨_, _, rfl, hS.only (.c k0 (.c k0 (.c k0 .n))), las⟩
         · intro hc hL
           refine r4 ?_
           refine r1 ?_
           exact SeqJ.nrm _ hL ⟨_, _, rfl, hS.only (.c k0 (.c k0 .n)), las⟩
   · intro hc hL
     refine r8 ?_
     refine r2 ?_
     rintro h130 hS
     refine r4 ?_
     have hr := Option.some.inj hL
     subst hr
     exact RetK.gen (vs := [.agg [.int .i64 v60, .bool v61, .int .i64 v62].toArray, .int .i64 v54]) rfl (ares_cell (fs4 rfl e52) (aload_atA agg120 size120 (hS.atB k0) (j := 0) rfl rfl (ws := [.int .i64 v60, .bool v61, .int .i64 v62]) rfl) (ares_tmp lk ares_nil)) rfl ⟨_, ⟨rfl, rfl⟩, hT ▸ hS.only .n⟩
theorem f68_wf {F : Nat} {wm : Nat} {h : H} {p0 : FerryWorld} {pa0_0 : Option Addr} {pc0_0 : Nat} {pa0_1 : Option Addr} {pc0_1 : Nat} {pa0_2 : Option Addr} {pc0_2 : Nat} {pa0_3 : Option Addr} {pc0_3 : Nat} {pa0_4 : Option Addr} {pc0_4 : Nat} {r : Bool} (hwm : wm ≤ h.size) (hsp0_0 : Sl (rInt .i64) wm h pa0_0 pc0_0 p0.in_) (hsp0_1 : Sl (rSl (rInt .i64)) wm h pa0_1 pc0_1 p0.boxes) (hsp0_2 : Sl (rSl rFerryEntry) wm h pa0_2 pc0_2 p0.entries) (hsp0_3 : Sl (rSl rFerryMail) wm h pa0_3 pc0_3 p0.held) (hsp0_4 : Sl rFerryLetter wm h pa0_4 pc0_4 p0.wire) (hL : f68L F p0 = some r) :
    WR XX 68 #[.agg [.slice pa0_0 p0.in_.length pc0_0, .slice pa0_1 p0.boxes.length pc0_1, .slice pa0_2 p0.entries.length pc0_2, .slice pa0_3 p0.held.length pc0_3, .slice pa0_4 p0.wire.length pc0_4, .int .i64 p0.said].toArray] wm h (CP (fun (v : Value) (Gb : List (Ast wm)) => v = .bool r ∧ Gb = []) [] h) := by
 refine bg Tryz.ntmps68 hwm Hold.nil ?_
 intro T hT hS
 unfold f68L at hL
 refine r3 ?_
 rintro _ h2 ⟨b1, eb1, rfl, hS⟩
 refine r4 ?_
 refine WC.drawX mixed (by kernel_rfl) ?_
 refine r16 ?_
 refine r16 ?_
 refine r8 ?_
 refine r3 ?_
 refine cn hL ?_ ?_
 · intro hc hL
   refine r6 ?_
   refine r1 ?_
   exact rt hL hT hS
 · intro hc hL
   refine r12 ?_
   refine WC.loop (WL.lift hL (fun (v9 : Int) (s : Fs) => ∃ (fr4 : Fr) (h3 : H), s = ⟨fr4, [], h3, none⟩ ∧ Sp wm T h [bx wm b1 [.slice pa0_0 p0.in_.length pc0_0, .slice pa0_1 p0.boxes.length pc0_1, .slice pa0_2 p0.entries.length pc0_2, .slice pa0_3 p0.held.length pc0_3, .slice pa0_4 p0.wire.length pc0_4, .int .i64 p0.said]] h3 ∧ fr4.at 1 = .pointer (some ⟨b1, 0, none⟩) ∧ fr4.at 4 = .int .i64 (p0.in_.length : Int) ∧ fr4.at 46 = .slice pa0_2 p0.entries.length pc0_2 ∧ fr4.at 47 = .int .i64 (p0.entries.length : Int) ∧ fr4.at 48 = .int .i64 v9) ⟨_, _, rfl, hS.only (.c k0 .n), las⟩ ?_)
   clear hL hS
   rintro next11 v9 s hnext11 hL ⟨fr4, h3, rfl, hS, e5, e6, e7, e8, e10⟩
   dsimp only [f68_b0] at hL
   refine r6 ?_
   refine cn hL ?_ ?_
   · intro hc hL
     refine r6 ?_
     obtain ⟨x12, hx12, hL⟩ := bind_some hL
     obtain ⟨b13, o14, ⟨a15, c16⟩, hab13, hAb13, hBb13, hFb13⟩ := Sl.at_ hsp0_2 hx12
     refine WO.w gN rfl (av_ixn und25 size64 lk lk rfl hab13 hx12) ?_
     have hsa15 : Sl rFerryEntry wm h a15 c16 x12 := hFb13
     refine WO.w gN rfl (av_ld agg64 (evT fh rfl) (At.fz hS.fz hBb13 hAb13) (j := 0) rfl (v := .slice a15 x12.length c16) rfl) ?_
     refine r8 ?_
     refine r3 ?_
     refine cn hL ?_ ?_
     · intro hc hL
       refine r8 ?_
       refine r3 ?_
       exact rt hL hT hS
     · intro hc hL
       refine r6 ?_
       refine r1 ?_
       exact LoopK.nrm (hnext11 _ _ hL ⟨_, _, rfl, hS.only (.c k0 .n), las⟩)
   · intro hc hL
     refine r12 ?_
     refine r3 ?_
     refine WC.loop (WL.lift hL (fun (v23 : Int) (s : Fs) => ∃ (fr18 : Fr) (h17 : H), s = ⟨fr18, [], h17, none⟩ ∧ Sp wm T h [bx wm b1 [.slice pa0_0 p0.in_.length pc0_0, .slice pa0_1 p0.boxes.length pc0_1, .slice pa0_2 p0.entries.length pc0_2, .slice pa0_3 p0.held.length pc0_3, .slice pa0_4 p0.wire.length pc0_4, .int .i64 p0.said]] h17 ∧ fr18.at 1 = .pointer (some ⟨b1, 0, none⟩) ∧ fr18.at 4 = .int .i64 (p0.in_.length : Int) ∧ fr18.at 58 = .slice pa0_0 p0.in_.length pc0_0 ∧ fr18.at 59 = .int .i64 (p0.in_.length : Int) ∧ fr18.at 60 = .int .i64 v23) ⟨_, _, rfl, hS.only (.c k0 .n), las⟩ ?_)
     clear hL hS
     rintro next25 v23 s hnext25 hL ⟨fr18, h17, rfl, hS, e19, e20, e21, e22, e24⟩
     dsimp only [f68_b1] at hL
     refine r6 ?_
     refine cn hL ?_ ?_
     · intro hc hL
       refine r6 ?_
       refine r1 ?_
       obtain ⟨x26, hx26, hL⟩ := bind_some hL
       obtain ⟨b27, o28, _, hab27, hAb27, hBb27, hFb27⟩ := Sl.at_ hsp0_0 hx26
       refine WO.w gN rfl (av_ixn und22 size3 lk lk rfl hab27 hx26) ?_
       refine WO.w gN rfl (av_ld agg3 (evT fh rfl) (At.fz hS.fz hBb27 hAb27) (j := 0) rfl (v := .int .i64 x26) rfl) ?_
       refine r16 ?_
       refine cn hL ?_ ?_
       · intro hc hL
         refine r12 ?_
         exact rt hL hT hS
       · intro hc hL
         refine r12 ?_
         refine r2 ?_
         refine WC.loop (WL.lift hL (fun (p : Int × Int) (s : Fs) => match p with | (v33, v35) => ∃ (fr30 : Fr) (h29 : H), s = ⟨fr30, [], h29, none⟩ ∧ Sp wm T h [bx wm b1 [.slice pa0_0 p0.in_.length pc0_0, .slice pa0_1 p0.boxes.length pc0_1, .slice pa0_2 p0.entries.length pc0_2, .slice pa0_3 p0.held.length pc0_3, .slice pa0_4 p0.wire.length pc0_4, .int .i64 p0.said]] h29 ∧ fr30.at 1 = .pointer (some ⟨b1, 0, none⟩) ∧ fr30.at 4 = .int .i64 (p0.in_.length : Int) ∧ fr30.at 9 = .int .i64 v33 ∧ fr30.at 10 = .int .i64 v35 ∧ fr30.at 58 = .slice pa0_0 p0.in_.length pc0_0 ∧ fr30.at 59 = .int .i64 (p0.in_.length : Int) ∧ fr30.at 60 = .int .i64 v23) ⟨_, _, rfl, hS.only (.c k0 .n), las⟩ ?_)
         clear hL hS
         rintro next40 ⟨v33, v35⟩ s hnext40 hL ⟨fr30, h29, rfl, hS, e31, e32, e34, e36, e37, e38, e39⟩
         dsimp only [f68_b2] at hL
         refine r6 ?_
         refine r1 ?_
         refine cn hL ?_ ?_
         · intro hc hL
           refine r16 ?_
           refine r3 ?_
           refine cn hL ?_ ?_
           · intro hc hL
             refine r16 ?_
             exact rt hL hT hS
           · intro hc hL
             refine r6 ?_
             refine r1 ?_
             obtain ⟨x41, hx41, hL⟩ := bind_some hL
             obtain ⟨b42, o43, _, hab42, hAb42, hBb42, hFb42⟩ := Sl.at_ hsp0_0 hx41
             refine WO.w gN rfl (av_ixn und22 size3 lk lk rfl hab42 hx41) ?_
             refine WO.w gN rfl (av_ld agg3 (evT fh rfl) (At.fz hS.fz hBb42 hAb42) (j := 0) rfl (v := .int .i64 x41) rfl) ?_
             refine r4 ?_
             refine r1 ?_
             obtain ⟨x44, hx44, hL⟩ := gd_some hL
             obtain ⟨b45, o46, _, hQ⟩ := Sl.atG (fun hg => hsp0_0) hx44
             have hab45 := fun hg => (hQ hg).1
             have hAb45 := fun hg => (hQ hg).2.1
             have hBb45 := fun hg => (hQ hg).2.2.1
             have hFb45 := fun hg => (hQ hg).2.2.2
             refine WO.gv (GuardIs.no rfl rfl rfl (fs2 rfl (fskip rfl fh))) rfl (fun hg => (av_ixn und22 size3 (evG (fskip rfl fh) rfl hg) (evG fh rfl hg) rfl (hab45 hg) (hx44 hg))) ?_
             refine WO.gv (GuardIs.no rfl rfl rfl (fs4 rfl fh)) rfl (fun hg => (av_ld agg3 (evG fh rfl hg) (At.fz hS.fz (hBb45 hg) (hAb45 hg)) (j := 0) rfl (v := .int .i64 x44) rfl)) ?_
             refine r4 ?_
             refine r1 ?_
             refine cn hL ?_ ?_
             · intro hc hL
               refine r12 ?_
               refine r3 ?_
               exact rt hL hT hS
             · intro hc hL
               refine r6 ?_
               refine r1 ?_
               obtain ⟨x47, hx47, hL⟩ := bind_some hL
               obtain ⟨b48, o49, _, hab48, hAb48, hBb48, hFb48⟩ := Sl.at_ hsp0_0 hx47
               refine WO.w gN rfl (av_ixn und22 size3 lk lk rfl hab48 hx47) ?_
               refine WO.w gN rfl (av_ld agg3 (evT fh rfl) (At.fz hS.fz hBb48 hAb48) (j := 0) rfl (v := .int .i64 x47) rfl) ?_
               refine r2 ?_
               exact LoopK.nrm (hnext40 _ _ hL ⟨_, _, rfl, hS.only (.c k0 .n), las⟩)
         · intro hc hL
           refine r8 ?_
           refine r2 ?_
           exact LoopK.nrm (hnext25 _ _ hL ⟨_, _, rfl, hS.only (.c k0 .n), las⟩)
     · intro hc hL
       refine r8 ?_
       refine r3 ?_
       exact rt hL hT hS
theorem f69_wf {F : Nat} {wm : Nat} {h : H} {p0 : FerryWorld} {pa0_0 : Option Addr} {pc0_0 : Nat} {pa0_1 : Option Addr} {pc0_1 : Nat} {pa0_2 : Option Addr} {pc0_2 : Nat} {pa0_3 : Option Addr} {pc0_3 : Nat} {pa0_4 : Option Addr} {pc0_4 : Nat} {r : Bool} (hwm : wm ≤ h.size) (hsp0_0 : Sl (rInt .i64) wm h pa0_0 pc0_0 p0.in_) (hsp0_1 : Sl (rSl (rInt .i64)) wm h pa0_1 pc0_1 p0.boxes) (hsp0_2 : Sl (rSl rFerryEntry) wm h pa0_2 pc0_2 p0.entries) (hsp0_3 : Sl (rSl rFerryMail) wm h pa0_3 pc0_3 p0.held) (hsp0_4 : Sl rFerryLetter wm h pa0_4 pc0_4 p0.wire) (hL : f69L F p0 = some r) :
    WR XX 69 #[.agg [.slice pa0_0 p0.in_.length pc0_0, .slice pa0_1 p0.boxes.length pc0_1, .slice pa0_2 p0.entries.length pc0_2, .slice pa0_3 p0.held.length pc0_3, .slice pa0_4 p0.wire.length pc0_4, .int .i64 p0.said].toArray] wm h (CP (fun (v : Value) (Gb : List (Ast wm)) => v = .bool r ∧ Gb = []) [] h) := by
 refine bg Tryz.ntmps69 hwm Hold.nil ?_
 intro T hT hS
 unfold f69L at hL
 refine r3 ?_
 rintro _ h2 ⟨b1, eb1, rfl, hS⟩
 refine r12 ?_
 refine r1 ?_
 refine WC.loop (WL.lift hL (fun (v8 : Int) (s : Fs) => ∃ (fr4 : Fr) (h3 : H), s = ⟨fr4, [], h3, none⟩ ∧ Sp wm T h [bx wm b1 [.slice pa0_0 p0.in_.length pc0_0, .slice pa0_1 p0.boxes.length pc0_1, .slice pa0_2 p0.entries.length pc0_2, .slice pa0_3 p0.held.length pc0_3, .slice pa0_4 p0.wire.length pc0_4, .int .i64 p0.said]] h3 ∧ fr4.at 1 = .pointer (some ⟨b1, 0, none⟩) ∧ fr4.at 8 = .slice pa0_4 p0.wire.length pc0_4 ∧ fr4.at 9 = .int .i64 (p0.wire.length : Int) ∧ fr4.at 10 = .int .i64 v8) ⟨_, _, rfl, hS.only (.c k0 .n), las⟩ ?_)
 clear hL hS
 rintro next10 v8 s hnext10 hL ⟨fr4, h3, rfl, hS, e5, e6, e7, e9⟩
 dsimp only [f69_b0] at hL
 refine r6 ?_
 refine cn hL ?_ ?_
 · intro hc hL
   refine r2 ?_
   refine WC.seqJ (r := r) (fun (_ : Unit) (s : Fs) => ∃ (fr12 : Fr) (h11 : H), s = ⟨fr12, [], h11, none⟩ ∧ Sp wm T h [bx wm b1 [.slice pa0_0 p0.in_.length pc0_0, .slice pa0_1 p0.boxes.length pc0_1, .slice pa0_2 p0.entries.length pc0_2, .slice pa0_3 p0.held.length pc0_3, .slice pa0_4 p0.wire.length pc0_4, .int .i64 p0.said]] h11 ∧ fr12.at 1 = .pointer (some ⟨b1, 0, none⟩) ∧ fr12.at 8 = .slice pa0_4 p0.wire.length pc0_4 ∧ fr12.at 9 = .int .i64 (p0.wire.length : Int) ∧ fr12.at 10 = .int .i64 v8) (f69_j0 v8 next10) ?_ ?_
   · clear hL hS
     rintro _ s hL ⟨fr12, h11, rfl, hS, e13, e14, e15, e16⟩
     dsimp only [f69_j0] at hL
     refine r4 ?_
     exact LoopK.nrm (hnext10 _ _ hL ⟨_, _, rfl, hS.only (.c k0 .n), las⟩)
   · skip
     refine r3 ?_
     obtain ⟨x17, hx17, hL⟩ := bind_some hL
     obtain ⟨b18, o19, ⟨⟨a20, c21⟩, ⟨a22, c23⟩⟩, hab18, hAb18, hBb18, hFb18⟩ := Sl.at_ hsp0_4 hx17
     refine WO.w gN rfl (av_ixn und27 size95 lk lk rfl hab18 hx17) ?_
     have hsa20 : Sl (rInt .i64) wm h a20 c21 x17.places := hFb18.1
     have hsa22 : Sl (rInt .i64) wm h a22 c23 x17.ages := hFb18.2
     refine WO.w gN rfl (av_ldA agg95 size95 (evT fh rfl) (At.fz hS.fz hBb18 hAb18) (j := 0) rfl rfl (ws := [.int .i64 x17.kind, .int .i64 x17.to_, .int .i64 x17.mail.msg, .int .i64 x17.mail.place, .int .i64 x17.mail.from_, .int .i64 x17.mail.age, .int .i64 x17.mail.hops, .slice a20 x17.places.length c21, .slice a22 x17.ages.length c23, .int .i64 x17.place, .int .i64 x17.at_, .int .i64 x17.age]) rfl) ?_
     refine r1 ?_
     rintro _ h25 ⟨b24, eb24, rfl, hS⟩
     refine r1 ?_
     rintro h26 hS
     refine r8 ?_
     refine r2 ?_
     refine WC.seqJ (r := r) (fun (v35 : Bool) (s : Fs) => ∃ (fr28 : Fr) (h27 : H), s = ⟨fr28, [], h27, none⟩ ∧ Sp wm T h [bx wm b1 [.slice pa0_0 p0.in_.length pc0_0, .slice pa0_1 p0.boxes.length pc0_1, .slice pa0_2 p0.entries.length pc0_2, .slice pa0_3 p0.held.length pc0_3, .slice pa0_4 p0.wire.length pc0_4, .int .i64 p0.said], bx wm b24 [.int .i64 x17.kind, .int .i64 x17.to_, .int .i64 x17.mail.msg, .int .i64 x17.mail.place, .int .i64 x17.mail.from_, .int .i64 x17.mail.age, .int .i64 x17.mail.hops, .slice a20 x17.places.length c21, .slice a22 x17.ages.length c23, .int .i64 x17.place, .int .i64 x17.at_, .int .i64 x17.age]] h27 ∧ fr28.at 1 = .pointer (some ⟨b1, 0, none⟩) ∧ fr28.at 4 = .pointer (some ⟨b24, 0, none⟩) ∧ fr28.at 8 = .slice pa0_4 p0.wire.length pc0_4 ∧ fr28.at 9 = .int .i64 (p0.wire.length : Int) ∧ fr28.at 10 = .int .i64 v8 ∧ fr28.at 15 = .int .i64 x17.kind ∧ fr28.at 16 = .bool v35) (f69_j1 F p0 v8 next10 x17) ?_ ?_
     · clear hL hS
       rintro v35 s hL ⟨fr28, h27, rfl, hS, e29, e30, e31, e32, e33, e34, e36⟩
       dsimp only [f69_j1] at hL
       refine cn hL ?_ ?_
       · intro hc hL
         refine r1 ?_
         refine BlkK.other rfl ?_
         refine r2 ?_
         exact SeqJ.nrm _ hL ⟨_, _, rfl, hS.only (.c k0 .n), las⟩
       · intro hc hL
         refine r6 ?_
         refine cn hL ?_ ?_
         · intro hc hL
           refine r16 ?_
           refine r1 ?_
           refine cn hL ?_ ?_
           · intro hc hL
             refine r8 ?_
             refine r1 ?_
             refine SeqJ.ret ?_
             refine r3 ?_
             exact rt hL hT hS
           · intro hc hL
             refine r12 ?_
             refine WC.loop (WL.lift hL (fun (v46 : Int) (s : Fs) => ∃ (fr38 : Fr) (h37 : H), s = ⟨fr38, [], h37, none⟩ ∧ Sp wm T h [bx wm b1 [.slice pa0_0 p0.in_.length pc0_0, .slice pa0_1 p0.boxes.length pc0_1, .slice pa0_2 p0.entries.length pc0_2, .slice pa0_3 p0.held.length pc0_3, .slice pa0_4 p0.wire.length pc0_4, .int .i64 p0.said], bx wm b24 [.int .i64 x17.kind, .int .i64 x17.to_, .int .i64 x17.mail.msg, .int .i64 x17.mail.place, .int .i64 x17.mail.from_, .int .i64 x17.mail.age, .int .i64 x17.mail.hops, .slice a20 x17.places.length c21, .slice a22 x17.ages.length c23, .int .i64 x17.place, .int .i64 x17.at_, .int .i64 x17.age]] h37 ∧ fr38.at 1 = .pointer (some ⟨b1, 0, none⟩) ∧ fr38.at 4 = .pointer (some ⟨b24, 0, none⟩) ∧ fr38.at 8 = .slice pa0_4 p0.wire.length pc0_4 ∧ fr38.at 9 = .int .i64 (p0.wire.length : Int) ∧ fr38.at 10 = .int .i64 v8 ∧ fr38.at 35 = .slice a20 x17.places.length c21 ∧ fr38.at 36 = .int .i64 (x17.places.length : Int) ∧ fr38.at 37 = .int .i64 v46) ⟨_, _, rfl, hS.only (.c k0 (.c k0 .n)), las⟩ ?_)
             clear hL hS
             rintro next48 v46 s hnext48 hL ⟨fr38, h37, rfl, hS, e39, e40, e41, e42, e43, e44, e45, e47⟩
             dsimp only [f69_b1] at hL
             refine r6 ?_
             refine cn hL ?_ ?_
             · intro hc hL
               refine r6 ?_
               refine r1 ?_
               obtain ⟨x49, hx49, hL⟩ := bind_some hL
               obtain ⟨b50, o51, _, hab50, hAb50, hBb50, hFb50⟩ := Sl.at_ hsa20 hx49
               refine WO.w gN rfl (av_ixn und22 size3 lk lk rfl hab50 hx49) ?_
               refine WO.w gN rfl (av_ld agg3 (evT fh rfl) (At.fz hS.fz hBb50 hAb50) (j := 0) rfl (v := .int .i64 x49) rfl) ?_
               refine r16 ?_
               refine r8 ?_
               obtain ⟨x52, hx52, hL⟩ := gd_some hL
               obtain ⟨b53, o54, _, hQ⟩ := Sl.atG (fun hg => hsa20) hx52
               have hab53 := fun hg => (hQ hg).1
               have hAb53 := fun hg => (hQ hg).2.1
               have hBb53 := fun hg => (hQ hg).2.2.1
               have hFb53 := fun hg => (hQ hg).2.2.2
               refine WO.gv (GuardIs.yes2 rfl rfl rfl (fs4 rfl (fskip rfl fh))) rfl (fun hg => (av_ixn und22 size3 (evG (fs2 rfl fh) rfl hg) (evG fh rfl hg) rfl (hab53 hg) (hx52 hg))) ?_
               refine WO.gv (GuardIs.yes2 rfl rfl rfl (fs4 rfl (fs2 rfl fh))) rfl (fun hg => (av_ld agg3 (evG fh rfl hg) (At.fz hS.fz (hBb53 hg) (hAb53 hg)) (j := 0) rfl (v := .int .i64 x52) rfl)) ?_
               refine r1 ?_
               refine WO.gv (GuardIs.no rfl rfl rfl (fs8 rfl (fs2 rfl (fskip rfl fh)))) rfl (fun hg => (av_and (evG (fs8 rfl fh) rfl hg) (evGU2 fh hg) lk)) ?_
               refine r4 ?_
               refine r1 ?_
               obtain ⟨x55, hx55, hL⟩ := gd_some hL
               obtain ⟨b56, o57, _, hQ⟩ := Sl.atG (fun hg => hsa22) hx55
               have hab56 := fun hg => (hQ hg).1
               have hAb56 := fun hg => (hQ hg).2.1
               have hBb56 := fun hg => (hQ hg).2.2.1
               have hFb56 := fun hg => (hQ hg).2.2.2
               refine WO.gv (GuardIs.no rfl rfl rfl (fs2 rfl (fskip rfl fh))) rfl (fun hg => (av_ixn und22 size3 (evG (fskip rfl fh) rfl hg) (evG fh rfl hg) rfl (hab56 hg) (hx55 hg))) ?_
               refine WO.gv (GuardIs.no rfl rfl rfl (fs4 rfl fh)) rfl (fun hg => (av_ld agg3 (evG fh rfl hg) (At.fz hS.fz (hBb56 hg) (hAb56 hg)) (j := 0) rfl (v := .int .i64 x55) rfl)) ?_
               refine r6 ?_
               obtain ⟨x58, hx58, hL⟩ := gd_some hL
               obtain ⟨b59, o60, _, hQ⟩ := Sl.atG (fun hg => hsa22) hx58
               have hab59 := fun hg => (hQ hg).1
               have hAb59 := fun hg => (hQ hg).2.1
               have hBb59 := fun hg => (hQ hg).2.2.1
               have hFb59 := fun hg => (hQ hg).2.2.2
               refine WO.gv (GuardIs.no rfl rfl rfl (fs2 rfl (fskip rfl fh))) rfl (fun hg => (av_ixn und22 size3 (evG (fskip rfl fh) rfl hg) (evG fh rfl hg) rfl (hab59 hg) (hx58 hg))) ?_
               refine WO.gv (GuardIs.no rfl rfl rfl (fs4 rfl fh)) rfl (fun hg => (av_ld agg3 (evG fh rfl hg) (At.fz hS.fz (hBb59 hg) (hAb59 hg)) (j := 0) rfl (v := .int .i64 x58) rfl)) ?_
               refine r4 ?_
               refine cn hL ?_ ?_
               · intro hc hL
                 refine r8 ?_
                 refine r3 ?_
                 refine SeqJ.ret ?_
                 refine r3 ?_
                 exact rt hL hT hS
               · intro hc hL
                 refine r6 ?_
                 refine r1 ?_
                 exact LoopK.nrm (hnext48 _ _ hL ⟨_, _, rfl, hS.only (.c k0 (.c k0 .n)), las⟩)
             · intro hc hL
               refine r4 ?_
               refine r1 ?_
               exact SeqJ.nrm _ hL ⟨_, _, rfl, hS.only (.c k0 .n), las⟩
         · intro hc hL
           refine r8 ?_
           refine r1 ?_
           refine SeqJ.ret ?_
           refine r3 ?_
           exact rt hL hT hS
     · skip
       refine r6 ?_
       refine cn hL ?_ ?_
       · intro hc hL
         refine r1 ?_
         exact SeqJ.nrm _ hL ⟨_, _, rfl, hS.only (.c k1 (.c k0 .n)), las⟩
       · intro hc hL
         refine r4 ?_
         exact SeqJ.nrm _ hL ⟨_, _, rfl, hS.only (.c k1 (.c k0 .n)), las⟩
 · intro hc hL
   refine r8 ?_
   refine r3 ?_
   exact rt hL hT hS
theorem f69_ok {F : Nat} {h : H} {p0 : FerryWorld} {pa0_0 : Option Addr} {pc0_0 : Nat} {pa0_1 : Option Addr} {pc0_1 : Nat} {pa0_2 : Option Addr} {pc0_2 : Nat} {pa0_3 : Option Addr} {pc0_3 : Nat} {pa0_4 : Option Addr} {pc0_4 : Nat} {r : Bool} (hsp0_0 : Sl (rInt .i64) h.size h pa0_0 pc0_0 p0.in_) (hsp0_1 : Sl (rSl (rInt .i64)) h.size h pa0_1 pc0_1 p0.boxes) (hsp0_2 : Sl (rSl rFerryEntry) h.size h pa0_2 pc0_2 p0.entries) (hsp0_3 : Sl (rSl rFerryMail) h.size h pa0_3 pc0_3 p0.held) (hsp0_4 : Sl rFerryLetter h.size h pa0_4 pc0_4 p0.wire) (hL : f69L F p0 = some r) : Pure XX 69 #[.agg [.slice pa0_0 p0.in_.length pc0_0, .slice pa0_1 p0.boxes.length pc0_1, .slice pa0_2 p0.entries.length pc0_2, .slice pa0_3 p0.held.length pc0_3, .slice pa0_4 p0.wire.length pc0_4, .int .i64 p0.said].toArray] h (.bool r) :=
 WR.pureC rfl (f69_wf (Nat.le_refl _) hsp0_0 hsp0_1 hsp0_2 hsp0_3 hsp0_4 hL)
theorem f72_wf {F : Nat} {wm : Nat} {h : H} {p0 : Inspector} {pa0_0 : Option Addr} {pc0_0 : Nat} {pa0_1 : Option Addr} {pc0_1 : Nat} {pa0_2 : Option Addr} {pc0_2 : Nat} {pa0_3 : Option Addr} {pc0_3 : Nat} {pa0_4 : Option Addr} {pc0_4 : Nat} {pa0_5 : Option Addr} {pc0_5 : Nat} {pb0 : Nat} {po0 : Nat} {r : Bool} (hwm : wm ≤ h.size) (hAp0 : At h pb0 po0 [.slice pa0_0 p0.ferryWorld.in_.length pc0_0, .slice pa0_1 p0.ferryWorld.boxes.length pc0_1, .slice pa0_2 p0.ferryWorld.entries.length pc0_2, .slice pa0_3 p0.ferryWorld.held.length pc0_3, .slice pa0_4 p0.ferryWorld.wire.length pc0_4, .int .i64 p0.ferryWorld.said, .slice pa0_5 p0.spots.length pc0_5]) (hBp0 : Stb wm h pb0) (hsp0_0 : Sl (rInt .i64) wm h pa0_0 pc0_0 p0.ferryWorld.in_) (hsp0_1 : Sl (rSl (rInt .i64)) wm h pa0_1 pc0_1 p0.ferryWorld.boxes) (hsp0_2 : Sl (rSl rFerryEntry) wm h pa0_2 pc0_2 p0.ferryWorld.entries) (hsp0_3 : Sl (rSl rFerryMail) wm h pa0_3 pc0_3 p0.ferryWorld.held) (hsp0_4 : Sl rFerryLetter wm h pa0_4 pc0_4 p0.ferryWorld.wire) (hsp0_5 : Sl rSpot_ wm h pa0_5 pc0_5 p0.spots) (hL : f72L F p0 = some r) :
    WR XX 72 #[.pointer (some ⟨pb0, po0, none⟩)] wm h (CP (fun (v : Value) (Gb : List (Ast wm)) => v = .bool r ∧ Gb = []) [] h) := by
 refine bg Tryz.ntmps72 hwm Hold.nil ?_
 intro T hT hS
 unfold f72L at hL
 refine r12 ?_
 refine WO.w gN rfl (av_ld agg3 (evT fh rfl) (At.fz hS.fz hBp0 hAp0) (j := 5) rfl (v := .int .i64 p0.ferryWorld.said) rfl) ?_
 refine r6 ?_
 refine WO.gv (GuardIs.no rfl rfl rfl (fs4 rfl fh)) rfl (fun hg => (av_ld agg3 (evG fh rfl hg) (At.fz hS.fz hBp0 hAp0) (j := 5) rfl (v := .int .i64 p0.ferryWorld.said) rfl)) ?_
 refine r4 ?_
 refine cn hL ?_ ?_
 · intro hc hL
   refine r6 ?_
   refine r1 ?_
   exact rt hL hT hS
 · intro hc hL
   refine r12 ?_
   refine r2 ?_
   refine WO.w gN rfl (av_ld agg24 (evT fh rfl) (At.fz hS.fz hBp0 hAp0) (j := 1) rfl (v := .slice pa0_1 p0.ferryWorld.boxes.length pc0_1) rfl) ?_
   refine r4 ?_
   refine r1 ?_
   have hS := hS.nil (e := (rInt .i64))
   refine WC.loop (WL.lift hL (fun (p : (List Int) × Int) (s : Fs) => match p with | (v4, v11) => ∃ (fr2 : Fr) (h1 : H) (a5 : Option Addr) (c6 : Nat) (n7 : Nat), s = ⟨fr2, [], h1, none⟩ ∧ Sp wm T h [ow wm (rInt .i64) a5 n7 c6 v4] h1 ∧ fr2.at 0 = .pointer (some ⟨pb0, po0, none⟩) ∧ fr2.at 3 = .slice a5 n7 c6 ∧ fr2.at 32 = .slice pa0_1 p0.ferryWorld.boxes.length pc0_1 ∧ fr2.at 33 = .int .i64 (p0.ferryWorld.boxes.length : Int) ∧ fr2.at 34 = .int .i64 v11) ⟨_, _, none, 0, 0, rfl, hS.only (.c k0 .n), las⟩ ?_)
   clear hL hS
   rintro next13 ⟨v4, v11⟩ s hnext13 hL ⟨fr2, h1, a5, c6, n7, rfl, hS, e3, e8, e9, e10, e12⟩
   obtain rfl := hS.on k0
   dsimp only [f72_b0] at hL
   refine r6 ?_
   refine cn hL ?_ ?_
   · intro hc hL
     refine r6 ?_
     obtain ⟨x14, hx14, hL⟩ := bind_some hL
     obtain ⟨b15, o16, ⟨a17, c18⟩, hab15, hAb15, hBb15, hFb15⟩ := Sl.at_ hsp0_1 hx14
     refine WO.w gN rfl (av_ixn und24 size22 lk lk rfl hab15 hx14) ?_
     have hsa17 : Sl (rInt .i64) wm h a17 c18 x14 := hFb15
     refine WO.w gN rfl (av_ld agg22 (evT fh rfl) (At.fz hS.fz hBb15 hAb15) (j := 0) rfl (v := .slice a17 x14.length c18) rfl) ?_
     refine r6 ?_
     obtain ⟨z19, hz19, hL⟩ := bind_some hL
     refine WO.hv gN rfl (s_ap (e := (rInt .i64)) hS k0 app22_22 lk lk (Sl.src (hS.sl hsa17)) rfl hz19) ?_
     rintro _ h22 ⟨a20, c21, rfl, hS⟩
     refine r8 ?_
     exact LoopK.nrm (hnext13 _ _ hL ⟨_, _, a20, c21, z19.length, rfl, hS.only (.c k0 .n), las⟩)
   · intro hc hL
     refine r12 ?_
     refine WO.w gN rfl (av_ld agg26 (evT fh rfl) (At.fz hS.fz hBp0 hAp0) (j := 3) rfl (v := .slice pa0_3 p0.ferryWorld.held.length pc0_3) rfl) ?_
     refine r4 ?_
     refine r1 ?_
     refine WC.loop (WL.lift hL (fun (p : (List Int) × Int) (s : Fs) => match p with | (v26, v33) => ∃ (fr24 : Fr) (h23 : H) (a27 : Option Addr) (c28 : Nat) (n29 : Nat), s = ⟨fr24, [], h23, none⟩ ∧ Sp wm T h [ow wm (rInt .i64) a27 n29 c28 v26] h23 ∧ fr24.at 0 = .pointer (some ⟨pb0, po0, none⟩) ∧ fr24.at 3 = .slice a27 n29 c28 ∧ fr24.at 46 = .slice pa0_3 p0.ferryWorld.held.length pc0_3 ∧ fr24.at 47 = .int .i64 (p0.ferryWorld.held.length : Int) ∧ fr24.at 48 = .int .i64 v33) ⟨_, _, a5, c6, v4.length, rfl, hS.only (.c k0 .n), las⟩ ?_)
     clear hL hS
     rintro next35 ⟨v26, v33⟩ s hnext35 hL ⟨fr24, h23, a27, c28, n29, rfl, hS, e25, e30, e31, e32, e34⟩
     obtain rfl := hS.on k0
     dsimp only [f72_b1] at hL
     refine r6 ?_
     refine cn hL ?_ ?_
     · intro hc hL
       refine r6 ?_
       obtain ⟨x36, hx36, hL⟩ := bind_some hL
       obtain ⟨b37, o38, ⟨a39, c40⟩, hab37, hAb37, hBb37, hFb37⟩ := Sl.at_ hsp0_3 hx36
       refine WO.w gN rfl (av_ixn und26 size90 lk lk rfl hab37 hx36) ?_
       have hsa39 : Sl rFerryMail wm h a39 c40 x36 := hFb37
       refine WO.w gN rfl (av_ld agg90 (evT fh rfl) (At.fz hS.fz hBb37 hAb37) (j := 0) rfl (v := .slice a39 x36.length c40) rfl) ?_
       refine r8 ?_
       refine r3 ?_
       refine WC.loop (WL.lift hL (fun (p : (List Int) × Int) (s : Fs) => match p with | (v44, v54) => ∃ (fr42 : Fr) (h41 : H) (a45 : Option Addr) (c46 : Nat) (n47 : Nat), s = ⟨fr42, [], h41, none⟩ ∧ Sp wm T h [ow wm (rInt .i64) a45 n47 c46 v44] h41 ∧ fr42.at 0 = .pointer (some ⟨pb0, po0, none⟩) ∧ fr42.at 3 = .slice a45 n47 c46 ∧ fr42.at 46 = .slice pa0_3 p0.ferryWorld.held.length pc0_3 ∧ fr42.at 47 = .int .i64 (p0.ferryWorld.held.length : Int) ∧ fr42.at 48 = .int .i64 v33 ∧ fr42.at 52 = .slice a39 x36.length c40 ∧ fr42.at 53 = .int .i64 (x36.length : Int) ∧ fr42.at 54 = .int .i64 v54) ⟨_, _, a27, c28, v26.length, rfl, hS.only (.c k0 .n), las⟩ ?_)
       clear hL hS
       rintro next56 ⟨v44, v54⟩ s hnext56 hL ⟨fr42, h41, a45, c46, n47, rfl, hS, e43, e48, e49, e50, e51, e52, e53, e55⟩
       obtain rfl := hS.on k0
       dsimp only [f72_b2] at hL
       refine r6 ?_
       refine cn hL ?_ ?_
       · intro hc hL
         refine r6 ?_
         obtain ⟨x57, hx57, hL⟩ := bind_some hL
         obtain ⟨b58, o59, _, hab58, hAb58, hBb58, hFb58⟩ := Sl.at_ hsa39 hx57
         refine WO.w gN rfl (av_ixn und90 size92 lk lk rfl hab58 hx57) ?_
         refine WO.w gN rfl (av_ldA agg92 size92 (evT fh rfl) (At.fz hS.fz hBb58 hAb58) (j := 0) rfl rfl (ws := [.int .i64 x57.msg, .int .i64 x57.place, .int .i64 x57.from_, .int .i64 x57.age, .int .i64 x57.hops]) rfl) ?_
         refine r1 ?_
         rintro _ h61 ⟨b60, eb60, rfl, hS⟩
         refine r1 ?_
         rintro h62 hS
         refine r6 ?_
         refine WO.hn gN rfl (s_bs (e := (rInt .i64)) hS und22 size3 zero3 rfl rfl rfl (evp_cons lk evp_nil) rfl [((), x57.msg)] rfl (xs := [x57.msg]) rfl (by intro q hq; simp only [List.mem_cons, List.not_mem_nil, or_false] at hq; subst hq; exact trivial) rfl) ?_
         rintro _ h64 ⟨b63, eb63, rfl, hS⟩
         obtain ⟨z65, hz65, hL⟩ := bind_some hL
         refine WO.hv gN rfl (s_ap (e := (rInt .i64)) hS k2 app22_22 lk lk (hS.osrc k0) (hS.on k0) hz65) ?_
         rintro _ h68 ⟨a66, c67, rfl, hS⟩
         refine r8 ?_
         exact LoopK.nrm (hnext56 _ _ hL ⟨_, _, a66, c67, z65.length, rfl, hS.only (.c k0 .n), las⟩)
       · intro hc hL
         refine r8 ?_
         refine r2 ?_
         exact LoopK.nrm (hnext35 _ _ hL ⟨_, _, a45, c46, v44.length, rfl, hS.only (.c k0 .n), las⟩)
     · intro hc hL
       refine r12 ?_
       refine WO.w gN rfl (av_ld agg27 (evT fh rfl) (At.fz hS.fz hBp0 hAp0) (j := 4) rfl (v := .slice pa0_4 p0.ferryWorld.wire.length pc0_4) rfl) ?_
       refine r4 ?_
       refine r1 ?_
       refine WC.loop (WL.lift hL (fun (p : (List Int) × Int) (s : Fs) => match p with | (v72, v79) => ∃ (fr70 : Fr) (h69 : H) (a73 : Option Addr) (c74 : Nat) (n75 : Nat), s = ⟨fr70, [], h69, none⟩ ∧ Sp wm T h [ow wm (rInt .i64) a73 n75 c74 v72] h69 ∧ fr70.at 0 = .pointer (some ⟨pb0, po0, none⟩) ∧ fr70.at 3 = .slice a73 n75 c74 ∧ fr70.at 69 = .slice pa0_4 p0.ferryWorld.wire.length pc0_4 ∧ fr70.at 70 = .int .i64 (p0.ferryWorld.wire.length : Int) ∧ fr70.at 71 = .int .i64 v79) ⟨_, _, a27, c28, v26.length, rfl, hS.only (.c k0 .n), las⟩ ?_)
       clear hL hS
       rintro next81 ⟨v72, v79⟩ s hnext81 hL ⟨fr70, h69, a73, c74, n75, rfl, hS, e71, e76, e77, e78, e80⟩
       obtain rfl := hS.on k0
       dsimp only [f72_b3] at hL
       refine r6 ?_
       refine cn hL ?_ ?_
       · intro hc hL
         refine r2 ?_
         refine WC.seqJ (r := r) (fun (v85 : (List Int)) (s : Fs) => ∃ (fr83 : Fr) (h82 : H) (a86 : Option Addr) (c87 : Nat) (n88 : Nat), s = ⟨fr83, [], h82, none⟩ ∧ Sp wm T h [ow wm (rInt .i64) a86 n88 c87 v85] h82 ∧ fr83.at 0 = .pointer (some ⟨pb0, po0, none⟩) ∧ fr83.at 3 = .slice a86 n88 c87 ∧ fr83.at 69 = .slice pa0_4 p0.ferryWorld.wire.length pc0_4 ∧ fr83.at 70 = .int .i64 (p0.ferryWorld.wire.length : Int) ∧ fr83.at 71 = .int .i64 v79) (f72_j0 v79 next81) ?_ ?_
         · clear hL hS
           rintro v85 s hL ⟨fr83, h82, a86, c87, n88, rfl, hS, e84, e89, e90, e91, e92⟩
           obtain rfl := hS.on k0
           dsimp only [f72_j0] at hL
           refine r4 ?_
           exact LoopK.nrm (hnext81 _ _ hL ⟨_, _, a86, c87, v85.length, rfl, hS.only (.c k0 .n), las⟩)
         · skip
           refine r3 ?_
           obtain ⟨x93, hx93, hL⟩ := bind_some hL
           obtain ⟨b94, o95, ⟨⟨a96, c97⟩, ⟨a98, c99⟩⟩, hab94, hAb94, hBb94, hFb94⟩ := Sl.at_ hsp0_4 hx93
           refine WO.w gN rfl (av_ixn und27 size95 lk lk rfl hab94 hx93) ?_
           have hsa96 : Sl (rInt .i64) wm h a96 c97 x93.places := hFb94.1
           have hsa98 : Sl (rInt .i64) wm h a98 c99 x93.ages := hFb94.2
           refine WO.w gN rfl (av_ldA agg95 size95 (evT fh rfl) (At.fz hS.fz hBb94 hAb94) (j := 0) rfl rfl (ws := [.int .i64 x93.kind, .int .i64 x93.to_, .int .i64 x93.mail.msg, .int .i64 x93.mail.place, .int .i64 x93.mail.from_, .int .i64 x93.mail.age, .int .i64 x93.mail.hops, .slice a96 x93.places.length c97, .slice a98 x93.ages.length c99, .int .i64 x93.place, .int .i64 x93.at_, .int .i64 x93.age]) rfl) ?_
           refine r1 ?_
           rintro _ h101 ⟨b100, eb100, rfl, hS⟩
           refine r1 ?_
           rintro h102 hS
           refine r8 ?_
           refine r1 ?_
           refine cn hL ?_ ?_
           · intro hc hL
             refine r4 ?_
             refine r1 ?_
             refine WO.hn gN rfl (s_bs (e := (rInt .i64)) hS und22 size3 zero3 rfl rfl rfl (evp_cons lk evp_nil) rfl [((), x93.mail.msg)] rfl (xs := [x93.mail.msg]) rfl (by intro q hq; simp only [List.mem_cons, List.not_mem_nil, or_false] at hq; subst hq; exact trivial) rfl) ?_
             rintro _ h104 ⟨b103, eb103, rfl, hS⟩
             obtain ⟨z105, hz105, hL⟩ := bind_some hL
             refine WO.hv gN rfl (s_ap (e := (rInt .i64)) hS k2 app22_22 lk lk (hS.osrc k0) (hS.on k0) hz105) ?_
             rintro _ h108 ⟨a106, c107, rfl, hS⟩
             refine r3 ?_
             exact SeqJ.nrm _ hL ⟨_, _, a106, c107, z105.length, rfl, hS.only (.c k0 .n), las⟩
           · intro hc hL
             refine r2 ?_
             exact SeqJ.nrm _ hL ⟨_, _, a73, c74, v72.length, rfl, hS.only (.c k1 .n), las⟩
       · intro hc hL
         refine r8 ?_
         obtain ⟨x109, hx109, hL⟩ := bind_some hL
         refine WO.cl gN rfl (Ent.fn has94 (evs_cons lk evs_nil)) hS (.c k0 .n) (fun g' hz hf hO => f94_wf (by rw [hz]; exact hS.hw) hO hx109) ?_
         rintro _ h110 _ ⟨rfl, rfl⟩ hS
         refine r6 ?_
         refine WO.w gN rfl (av_lenO und22 lk (congrArg Nat.cast (hS.on k0))) ?_
         refine r4 ?_
         refine WC.loop (WL.lift hL (fun (v118 : Int) (s : Fs) => ∃ (fr113 : Fr) (h112 : H), s = ⟨fr113, [], h112, none⟩ ∧ Sp wm T h [ow wm (rInt .i64) a73 v72.length c74 x109] h112 ∧ fr113.at 0 = .pointer (some ⟨pb0, po0, none⟩) ∧ fr113.at 3 = .slice a73 v72.length c74 ∧ fr113.at 87 = .slice a73 v72.length c74 ∧ fr113.at 88 = .int .i64 (x109.length : Int) ∧ fr113.at 89 = .int .i64 v118) ⟨_, _, rfl, hS.only (.c k0 .n), las⟩ ?_)
         clear hL hS
         rintro next120 v118 s hnext120 hL ⟨fr113, h112, rfl, hS, e114, e115, e116, e117, e119⟩
         dsimp only [f72_b4] at hL
         refine r6 ?_
         refine cn hL ?_ ?_
         · intro hc hL
           refine r6 ?_
           refine r1 ?_
           obtain ⟨x121, hx121, hL⟩ := bind_some hL
           obtain ⟨b122, o123, _, hab122, hAb122, hFb122⟩ := Src.at_ (hS.osrc k0) hx121
           refine WO.w gN rfl (av_ixn und22 size3 lk lk (hS.on k0) hab122 hx121) ?_
           refine WO.w gN rfl (av_ld agg3 (evT fh rfl) hAb122 (j := 0) rfl (v := .int .i64 x121) rfl) ?_
           refine r8 ?_
           refine r3 ?_
           refine cn hL ?_ ?_
           · intro hc hL
             refine r8 ?_
             refine r3 ?_
             exact rt hL hT hS
           · intro hc hL
             refine r6 ?_
             refine r1 ?_
             exact LoopK.nrm (hnext120 _ _ hL ⟨_, _, rfl, hS.only (.c k0 .n), las⟩)
         · intro hc hL
           refine r8 ?_
           refine WO.w gN rfl (av_lenO und22 lk (congrArg Nat.cast (hS.on k0))) ?_
           refine r4 ?_
           refine WO.w gN rfl (av_ld agg3 (evT fh rfl) (At.fz hS.fz hBp0 hAp0) (j := 5) rfl (v := .int .i64 p0.ferryWorld.said) rfl) ?_
           refine r4 ?_
           refine r1 ?_
           exact rt hL hT hS
theorem f72_ok {F : Nat} {h : H} {p0 : Inspector} {pa0_0 : Option Addr} {pc0_0 : Nat} {pa0_1 : Option Addr} {pc0_1 : Nat} {pa0_2 : Option Addr} {pc0_2 : Nat} {pa0_3 : Option Addr} {pc0_3 : Nat} {pa0_4 : Option Addr} {pc0_4 : Nat} {pa0_5 : Option Addr} {pc0_5 : Nat} {pb0 : Nat} {po0 : Nat} {r : Bool} (hAp0 : At h pb0 po0 [.slice pa0_0 p0.ferryWorld.in_.length pc0_0, .slice pa0_1 p0.ferryWorld.boxes.length pc0_1, .slice pa0_2 p0.ferryWorld.entries.length pc0_2, .slice pa0_3 p0.ferryWorld.held.length pc0_3, .slice pa0_4 p0.ferryWorld.wire.length pc0_4, .int .i64 p0.ferryWorld.said, .slice pa0_5 p0.spots.length pc0_5]) (hBp0 : Stb h.size h pb0) (hsp0_0 : Sl (rInt .i64) h.size h pa0_0 pc0_0 p0.ferryWorld.in_) (hsp0_1 : Sl (rSl (rInt .i64)) h.size h pa0_1 pc0_1 p0.ferryWorld.boxes) (hsp0_2 : Sl (rSl rFerryEntry) h.size h pa0_2 pc0_2 p0.ferryWorld.entries) (hsp0_3 : Sl (rSl rFerryMail) h.size h pa0_3 pc0_3 p0.ferryWorld.held) (hsp0_4 : Sl rFerryLetter h.size h pa0_4 pc0_4 p0.ferryWorld.wire) (hsp0_5 : Sl rSpot_ h.size h pa0_5 pc0_5 p0.spots) (hL : f72L F p0 = some r) : Pure XX 72 #[.pointer (some ⟨pb0, po0, none⟩)] h (.bool r) :=
 WR.pureC rfl (f72_wf (Nat.le_refl _) hAp0 hBp0 hsp0_0 hsp0_1 hsp0_2 hsp0_3 hsp0_4 hsp0_5 hL)
end Go.Proofs.YtbmbbcaaimehkaaGreat
end
end
section
set_option linter.unusedVariables false
set_option linter.unusedSimpArgs false
namespace Go.Proofs.YtbmbbcaaimehkaaGreat
open Go.Lf
def f86L (p0 : FerryLetter) : Option Bool :=
  (bif (p0.kind == 1) then some ((!(((p0.place != 0) || (p0.at_ != 0)) || (p0.age != 0))) && (!((decide ((p0.places.length : Int) > 0)) || (decide ((p0.ages.length : Int) > 0))))) else (bif (p0.kind == 2) then some ((((!(((p0.place != 0) || (p0.at_ != 0)) || (p0.age != 0))) && (!(!(eqFerryMail p0.mail (FerryMail.mk 0 0 0 0 0))))) && (decide ((p0.places.length : Int) > 0))) && ((p0.places.length : Int) == (p0.ages.length : Int))) else (bif (p0.kind == 3) then some ((!(!(eqFerryMail p0.mail (FerryMail.mk 0 0 0 0 0)))) && (!((decide ((p0.places.length : Int) > 0)) || (decide ((p0.ages.length : Int) > 0))))) else some false)))
end Go.Proofs.YtbmbbcaaimehkaaGreat
end
section
set_option linter.unusedVariables false
set_option linter.unusedSimpArgs false
set_option maxRecDepth 20000
noncomputable section
namespace Go.Proofs.YtbmbbcaaimehkaaGreat
open Go.Abs Go.Lf
theorem f86_wf {wm : Nat} {h : H} {p0 : FerryLetter} {pa0_0 : Option Addr} {pc0_0 : Nat} {pa0_1 : Option Addr} {pc0_1 : Nat} {r : Bool} (hwm : wm ≤ h.size) (hsp0_0 : Sl (rInt .i64) wm h pa0_0 pc0_0 p0.places) (hsp0_1 : Sl (rInt .i64) wm h pa0_1 pc0_1 p0.ages) (hL : f86L p0 = some r) :
    WR XX 86 #[.agg [.int .i64 p0.kind, .int .i64 p0.to_, .int .i64 p0.mail.msg, .int .i64 p0.mail.place, .int .i64 p0.mail.from_, .int .i64 p0.mail.age, .int .i64 p0.mail.hops, .slice pa0_0 p0.places.length pc0_0, .slice pa0_1 p0.ages.length pc0_1, .int .i64 p0.place, .int .i64 p0.at_, .int .i64 p0.age].toArray] wm h (CP (fun (v : Value) (Gb : List (Ast wm)) => v = .bool r ∧ Gb = []) [] h) := by
 refine bg Tryz.ntmps86 hwm Hold.nil ?_
 intro T hT hS
 unfold f86L at hL
 refine r3 ?_
 rintro _ h2 ⟨b1, eb1, rfl, hS⟩
 refine r16 ?_
 refine r16 ?_
 refine r8 ?_
 refine WO.w gN rfl (av_bld bld92 evp_nil rfl (cs' := [.int .i64 0, .int .i64 0, .int .i64 0, .int .i64 0, .int .i64 0]) rfl) ?_
 refine WO.w gN rfl (av_bin (evT (fskip rfl fh) rfl) (evT fh rfl) (abin_neS (xs := [.int .i64 p0.mail.msg, .int .i64 p0.mail.place, .int .i64 p0.mail.from_, .int .i64 p0.mail.age, .int .i64 p0.mail.hops]) (ys := [.int .i64 0, .int .i64 0, .int .i64 0, .int .i64 0, .int .i64 0]) (eqs92 p0.mail (FerryMail.mk 0 0 0 0 0)) rfl rfl)) ?_
 refine r16 ?_
 refine r1 ?_
 refine cn hL ?_ ?_
 · intro hc hL
   refine r12 ?_
   refine r2 ?_
   exact rt hL hT hS
 · intro hc hL
   refine r6 ?_
   refine cn hL ?_ ?_
   · intro hc hL
     refine r16 ?_
     refine r12 ?_
     refine r1 ?_
     exact rt hL hT hS
   · intro hc hL
     refine r6 ?_
     refine cn hL ?_ ?_
     · intro hc hL
       refine r12 ?_
       refine r2 ?_
       exact rt hL hT hS
     · intro hc hL
       refine r8 ?_
       refine r1 ?_
       exact rt hL hT hS
theorem f86_ok {h : H} {p0 : FerryLetter} {pa0_0 : Option Addr} {pc0_0 : Nat} {pa0_1 : Option Addr} {pc0_1 : Nat} {r : Bool} (hsp0_0 : Sl (rInt .i64) h.size h pa0_0 pc0_0 p0.places) (hsp0_1 : Sl (rInt .i64) h.size h pa0_1 pc0_1 p0.ages) (hL : f86L p0 = some r) : Pure XX 86 #[.agg [.int .i64 p0.kind, .int .i64 p0.to_, .int .i64 p0.mail.msg, .int .i64 p0.mail.place, .int .i64 p0.mail.from_, .int .i64 p0.mail.age, .int .i64 p0.mail.hops, .slice pa0_0 p0.places.length pc0_0, .slice pa0_1 p0.ages.length pc0_1, .int .i64 p0.place, .int .i64 p0.at_, .int .i64 p0.age].toArray] h (.bool r) :=
 WR.pureC rfl (f86_wf (Nat.le_refl _) hsp0_0 hsp0_1 hL)
end Go.Proofs.YtbmbbcaaimehkaaGreat
end
end
section
set_option linter.unusedVariables false
set_option linter.unusedSimpArgs false
namespace Go.Proofs.YtbmbbcaaimehkaaGreat
open Go.Lf
def f95L (p0 : Inspector) (p1 : Int) : Option Bool :=
  some ((decide (p1 ≥ 0)) && (decide (p1 < (p0.ferryWorld.entries.length : Int))))
def f96L (p0 : Inspector) (p1 : Int) : Option Bool :=
  some ((decide (p1 ≥ 0)) && (decide (p1 < (p0.ferryWorld.in_.length : Int))))
def f99_b0 (p0 : (List Int)) (p1 : Int) : Int → (Int → Option Int) → Option Int := fun v6 next8 =>
  (bif decide (v6 < (p0.length : Int)) then (geti p0 v6).bind fun x9 => (bif (p1 == x9) then some v6 else next8 (w64 (v6 + 1))) else some (-1))
def f99L (F : Nat) (p0 : (List Int)) (p1 : Int) : Option Int :=
  loop F (f99_b0 p0 p1) 0
end Go.Proofs.YtbmbbcaaimehkaaGreat
end
section
set_option linter.unusedVariables false
set_option linter.unusedSimpArgs false
set_option maxRecDepth 20000
noncomputable section
namespace Go.Proofs.YtbmbbcaaimehkaaGreat
open Go.Abs Go.Lf
theorem f95_wf {wm : Nat} {h : H} {p0 : Inspector} {p1 : Int} {pa0_0 : Option Addr} {pc0_0 : Nat} {pa0_1 : Option Addr} {pc0_1 : Nat} {pa0_2 : Option Addr} {pc0_2 : Nat} {pa0_3 : Option Addr} {pc0_3 : Nat} {pa0_4 : Option Addr} {pc0_4 : Nat} {pa0_5 : Option Addr} {pc0_5 : Nat} {pb0 : Nat} {po0 : Nat} {r : Bool} (hwm : wm ≤ h.size) (hAp0 : At h pb0 po0 [.slice pa0_0 p0.ferryWorld.in_.length pc0_0, .slice pa0_1 p0.ferryWorld.boxes.length pc0_1, .slice pa0_2 p0.ferryWorld.entries.length pc0_2, .slice pa0_3 p0.ferryWorld.held.length pc0_3, .slice pa0_4 p0.ferryWorld.wire.length pc0_4, .int .i64 p0.ferryWorld.said, .slice pa0_5 p0.spots.length pc0_5]) (hBp0 : Stb wm h pb0) (hsp0_0 : Sl (rInt .i64) wm h pa0_0 pc0_0 p0.ferryWorld.in_) (hsp0_1 : Sl (rSl (rInt .i64)) wm h pa0_1 pc0_1 p0.ferryWorld.boxes) (hsp0_2 : Sl (rSl rFerryEntry) wm h pa0_2 pc0_2 p0.ferryWorld.entries) (hsp0_3 : Sl (rSl rFerryMail) wm h pa0_3 pc0_3 p0.ferryWorld.held) (hsp0_4 : Sl rFerryLetter wm h pa0_4 pc0_4 p0.ferryWorld.wire) (hsp0_5 : Sl rSpot_ wm h pa0_5 pc0_5 p0.spots) (hL : f95L p0 p1 = some r) :
    WR XX 95 #[.pointer (some ⟨pb0, po0, none⟩), .int .i64 p1] wm h (CP (fun (v : Value) (Gb : List (Ast wm)) => v = .bool r ∧ Gb = []) [] h) := by
 refine bg Tryz.ntmps95 hwm Hold.nil ?_
 intro T hT hS
 unfold f95L at hL
 refine r12 ?_
 refine r3 ?_
 refine WO.gv (GuardIs.yes rfl rfl rfl (fs4 rfl (fskip rfl fh))) rfl (fun hg => (av_ld agg25 (evG fh rfl hg) (At.fz hS.fz hBp0 hAp0) (j := 2) rfl (v := .slice pa0_2 p0.ferryWorld.entries.length pc0_2) rfl)) ?_
 refine r6 ?_
 refine r1 ?_
 exact rt hL hT hS
theorem f95_ok {h : H} {p0 : Inspector} {p1 : Int} {pa0_0 : Option Addr} {pc0_0 : Nat} {pa0_1 : Option Addr} {pc0_1 : Nat} {pa0_2 : Option Addr} {pc0_2 : Nat} {pa0_3 : Option Addr} {pc0_3 : Nat} {pa0_4 : Option Addr} {pc0_4 : Nat} {pa0_5 : Option Addr} {pc0_5 : Nat} {pb0 : Nat} {po0 : Nat} {r : Bool} (hAp0 : At h pb0 po0 [.slice pa0_0 p0.ferryWorld.in_.length pc0_0, .slice pa0_1 p0.ferryWorld.boxes.length pc0_1, .slice pa0_2 p0.ferryWorld.entries.length pc0_2, .slice pa0_3 p0.ferryWorld.held.length pc0_3, .slice pa0_4 p0.ferryWorld.wire.length pc0_4, .int .i64 p0.ferryWorld.said, .slice pa0_5 p0.spots.length pc0_5]) (hBp0 : Stb h.size h pb0) (hsp0_0 : Sl (rInt .i64) h.size h pa0_0 pc0_0 p0.ferryWorld.in_) (hsp0_1 : Sl (rSl (rInt .i64)) h.size h pa0_1 pc0_1 p0.ferryWorld.boxes) (hsp0_2 : Sl (rSl rFerryEntry) h.size h pa0_2 pc0_2 p0.ferryWorld.entries) (hsp0_3 : Sl (rSl rFerryMail) h.size h pa0_3 pc0_3 p0.ferryWorld.held) (hsp0_4 : Sl rFerryLetter h.size h pa0_4 pc0_4 p0.ferryWorld.wire) (hsp0_5 : Sl rSpot_ h.size h pa0_5 pc0_5 p0.spots) (hL : f95L p0 p1 = some r) : Pure XX 95 #[.pointer (some ⟨pb0, po0, none⟩), .int .i64 p1] h (.bool r) :=
 WR.pureC rfl (f95_wf (Nat.le_refl _) hAp0 hBp0 hsp0_0 hsp0_1 hsp0_2 hsp0_3 hsp0_4 hsp0_5 hL)
theorem f96_wf {wm : Nat} {h : H} {p0 : Inspector} {p1 : Int} {pa0_0 : Option Addr} {pc0_0 : Nat} {pa0_1 : Option Addr} {pc0_1 : Nat} {pa0_2 : Option Addr} {pc0_2 : Nat} {pa0_3 : Option Addr} {pc0_3 : Nat} {pa0_4 : Option Addr} {pc0_4 : Nat} {pa0_5 : Option Addr} {pc0_5 : Nat} {pb0 : Nat} {po0 : Nat} {r : Bool} (hwm : wm ≤ h.size) (hAp0 : At h pb0 po0 [.slice pa0_0 p0.ferryWorld.in_.length pc0_0, .slice pa0_1 p0.ferryWorld.boxes.length pc0_1, .slice pa0_2 p0.ferryWorld.entries.length pc0_2, .slice pa0_3 p0.ferryWorld.held.length pc0_3, .slice pa0_4 p0.ferryWorld.wire.length pc0_4, .int .i64 p0.ferryWorld.said, .slice pa0_5 p0.spots.length pc0_5]) (hBp0 : Stb wm h pb0) (hsp0_0 : Sl (rInt .i64) wm h pa0_0 pc0_0 p0.ferryWorld.in_) (hsp0_1 : Sl (rSl (rInt .i64)) wm h pa0_1 pc0_1 p0.ferryWorld.boxes) (hsp0_2 : Sl (rSl rFerryEntry) wm h pa0_2 pc0_2 p0.ferryWorld.entries) (hsp0_3 : Sl (rSl rFerryMail) wm h pa0_3 pc0_3 p0.ferryWorld.held) (hsp0_4 : Sl rFerryLetter wm h pa0_4 pc0_4 p0.ferryWorld.wire) (hsp0_5 : Sl rSpot_ wm h pa0_5 pc0_5 p0.spots) (hL : f96L p0 p1 = some r) :
    WR XX 96 #[.pointer (some ⟨pb0, po0, none⟩), .int .i64 p1] wm h (CP (fun (v : Value) (Gb : List (Ast wm)) => v = .bool r ∧ Gb = []) [] h) := by
 refine bg Tryz.ntmps96 hwm Hold.nil ?_
 intro T hT hS
 unfold f96L at hL
 refine r12 ?_
 refine r3 ?_
 refine WO.gv (GuardIs.yes rfl rfl rfl (fs4 rfl (fskip rfl fh))) rfl (fun hg => (av_ld agg22 (evG fh rfl hg) (At.fz hS.fz hBp0 hAp0) (j := 0) rfl (v := .slice pa0_0 p0.ferryWorld.in_.length pc0_0) rfl)) ?_
 refine r6 ?_
 refine r1 ?_
 exact rt hL hT hS
theorem f96_ok {h : H} {p0 : Inspector} {p1 : Int} {pa0_0 : Option Addr} {pc0_0 : Nat} {pa0_1 : Option Addr} {pc0_1 : Nat} {pa0_2 : Option Addr} {pc0_2 : Nat} {pa0_3 : Option Addr} {pc0_3 : Nat} {pa0_4 : Option Addr} {pc0_4 : Nat} {pa0_5 : Option Addr} {pc0_5 : Nat} {pb0 : Nat} {po0 : Nat} {r : Bool} (hAp0 : At h pb0 po0 [.slice pa0_0 p0.ferryWorld.in_.length pc0_0, .slice pa0_1 p0.ferryWorld.boxes.length pc0_1, .slice pa0_2 p0.ferryWorld.entries.length pc0_2, .slice pa0_3 p0.ferryWorld.held.length pc0_3, .slice pa0_4 p0.ferryWorld.wire.length pc0_4, .int .i64 p0.ferryWorld.said, .slice pa0_5 p0.spots.length pc0_5]) (hBp0 : Stb h.size h pb0) (hsp0_0 : Sl (rInt .i64) h.size h pa0_0 pc0_0 p0.ferryWorld.in_) (hsp0_1 : Sl (rSl (rInt .i64)) h.size h pa0_1 pc0_1 p0.ferryWorld.boxes) (hsp0_2 : Sl (rSl rFerryEntry) h.size h pa0_2 pc0_2 p0.ferryWorld.entries) (hsp0_3 : Sl (rSl rFerryMail) h.size h pa0_3 pc0_3 p0.ferryWorld.held) (hsp0_4 : Sl rFerryLetter h.size h pa0_4 pc0_4 p0.ferryWorld.wire) (hsp0_5 : Sl rSpot_ h.size h pa0_5 pc0_5 p0.spots) (hL : f96L p0 p1 = some r) : Pure XX 96 #[.pointer (some ⟨pb0, po0, none⟩), .int .i64 p1] h (.bool r) :=
 WR.pureC rfl (f96_wf (Nat.le_refl _) hAp0 hBp0 hsp0_0 hsp0_1 hsp0_2 hsp0_3 hsp0_4 hsp0_5 hL)
theorem f99_wf {F : Nat} {wm : Nat} {h : H} {p0 : (List Int)} {p1 : Int} {pa0_0 : Option Addr} {pc0_0 : Nat} {r : Int} (hwm : wm ≤ h.size) (hsp0_0 : Sl (rInt .i64) wm h pa0_0 pc0_0 p0) (hL : f99L F p0 p1 = some r) :
    WR XX 99 #[.slice pa0_0 p0.length pc0_0, .int .i64 p1] wm h (CP (fun (v : Value) (Gb : List (Ast wm)) => v = .int .i64 r ∧ Gb = []) [] h) := by
 refine bg Tryz.ntmps99 hwm Hold.nil ?_
 intro T hT hS
 unfold f99L at hL
 refine r12 ?_
 refine r2 ?_
 refine WC.loop (WL.lift hL (fun (v6 : Int) (s : Fs) => ∃ (fr2 : Fr) (h1 : H), s = ⟨fr2, [], h1, none⟩ ∧ Sp wm T h [] h1 ∧ fr2.at 0 = .slice pa0_0 p0.length pc0_0 ∧ fr2.at 1 = .int .i64 p1 ∧ fr2.at 7 = .int .i64 (p0.length : Int) ∧ fr2.at 8 = .int .i64 v6) ⟨_, _, rfl, hS.only .n, las⟩ ?_)
 clear hL hS
 rintro next8 v6 s hnext8 hL ⟨fr2, h1, rfl, hS, e3, e4, e5, e7⟩
 dsimp only [f99_b0] at hL
 refine r6 ?_
 refine cn hL ?_ ?_
 · intro hc hL
   refine r12 ?_
   refine r3 ?_
   obtain ⟨x9, hx9, hL⟩ := bind_some hL
   obtain ⟨b10, o11, _, hab10, hAb10, hBb10, hFb10⟩ := Sl.at_ hsp0_0 hx9
   refine WO.w gN rfl (av_ixn und22 size3 lk lk rfl hab10 hx9) ?_
   refine WO.w gN rfl (av_ld agg3 (evT fh rfl) (At.fz hS.fz hBb10 hAb10) (j := 0) rfl (v := .int .i64 x9) rfl) ?_
   refine r3 ?_
   refine cn hL ?_ ?_
   · intro hc hL
     refine r12 ?_
     exact rt hL hT hS
   · intro hc hL
     refine r6 ?_
     refine r1 ?_
     exact LoopK.nrm (hnext8 _ _ hL ⟨_, _, rfl, hS.only .n, las⟩)
 · intro hc hL
   refine r8 ?_
   refine r3 ?_
   exact rt hL hT hS
end Go.Proofs.YtbmbbcaaimehkaaGreat
end
end
section
set_option linter.unusedVariables false
set_option linter.unusedSimpArgs false
namespace Go.Proofs.YtbmbbcaaimehkaaGreat
open Go.Lf
end Go.Proofs.YtbmbbcaaimehkaaGreat
end
section
set_option linter.unusedVariables false
set_option linter.unusedSimpArgs false
set_option maxRecDepth 20000
noncomputable section
namespace Go.Proofs.YtbmbbcaaimehkaaGreat
open Go.Abs Go.Lf
end Go.Proofs.YtbmbbcaaimehkaaGreat
end
end
section
set_option linter.unusedVariables false
set_option linter.unusedSimpArgs false
namespace Go.Proofs.YtbmbbcaaimehkaaGreat
open Go.Lf
def f33L (F : Nat) (p0 : FerryWorld) (p1 : Int) : Option (Int × Bool × Int) :=
  (f52L F p0 p1).bind fun x3 => some (x3.1.at_, x3.1.is, x3.1.age)
end Go.Proofs.YtbmbbcaaimehkaaGreat
end
section
set_option linter.unusedVariables false
set_option linter.unusedSimpArgs false
set_option maxRecDepth 20000
noncomputable section
namespace Go.Proofs.YtbmbbcaaimehkaaGreat
open Go.Abs Go.Lf
theorem f33_wf {F : Nat} {wm : Nat} {h : H} {p0 : FerryWorld} {p1 : Int} {pa0_0 : Option Addr} {pc0_0 : Nat} {pa0_1 : Option Addr} {pc0_1 : Nat} {pa0_2 : Option Addr} {pc0_2 : Nat} {pa0_3 : Option Addr} {pc0_3 : Nat} {pa0_4 : Option Addr} {pc0_4 : Nat} {r : (Int × Bool × Int)} (hwm : wm ≤ h.size) (hsp0_0 : Sl (rInt .i64) wm h pa0_0 pc0_0 p0.in_) (hsp0_1 : Sl (rSl (rInt .i64)) wm h pa0_1 pc0_1 p0.boxes) (hsp0_2 : Sl (rSl rFerryEntry) wm h pa0_2 pc0_2 p0.entries) (hsp0_3 : Sl (rSl rFerryMail) wm h pa0_3 pc0_3 p0.held) (hsp0_4 : Sl rFerryLetter wm h pa0_4 pc0_4 p0.wire) (hL : f33L F p0 p1 = some r) :
    WR XX 33 #[.agg [.slice pa0_0 p0.in_.length pc0_0, .slice pa0_1 p0.boxes.length pc0_1, .slice pa0_2 p0.entries.length pc0_2, .slice pa0_3 p0.held.length pc0_3, .slice pa0_4 p0.wire.length pc0_4, .int .i64 p0.said].toArray, .int .i64 p1] wm h (CP (fun (v : Value) (Gb : List (Ast wm)) => v = .tuple [.int .i64 r.1, .bool r.2.1, .int .i64 r.2.2].toArray ∧ Gb = []) [] h) := by
 refine bg Tryz.ntmps33 hwm Hold.nil ?_
 intro T hT hS
 unfold f33L at hL
 refine r3 ?_
 rintro _ h2 ⟨b1, eb1, rfl, hS⟩
 refine r8 ?_
 refine r1 ?_
 obtain ⟨x3, hx3, hL⟩ := bind_some hL
 refine WO.cl gN rfl (Ent.fn has52 (evs_cons lk (evs_cons lk evs_nil))) hS .n (fun g' hz hf hO => f52_wf (by rw [hz]; exact hS.hw) ((hS.sl hsp0_0).mono hf) ((hS.sl hsp0_1).mono hf) ((hS.sl hsp0_2).mono hf) ((hS.sl hsp0_3).mono hf) ((hS.sl hsp0_4).mono hf) hx3) ?_
 rintro _ h4 _ ⟨rfl, rfl⟩ hS
 refine r4 ?_
 rintro _ h7 ⟨b6, eb6, rfl, hS⟩
 refine r1 ?_
 rintro h8 hS
 refine r4 ?_
 refine WC.drawX mixed (by kernel_rfl) ?_
 refine r12 ?_
 have hr := Option.some.inj hL
 subst hr
 exact RetK.gen (vs := [.int .i64 x3.1.at_, .bool x3.1.is, .int .i64 x3.1.age]) rfl (ares_tmp lk (ares_tmp lk (ares_tmp lk ares_nil))) rfl ⟨_, ⟨rfl, rfl⟩, hT ▸ hS.only .n⟩
end Go.Proofs.YtbmbbcaaimehkaaGreat
end
end
section
set_option linter.unusedVariables false
set_option linter.unusedSimpArgs false
namespace Go.Proofs.YtbmbbcaaimehkaaGreat
open Go.Lf
def f51_b2 (p0 : FerryWorld) (v22 : Int) (next24 : (Int → Option Bool)) : Int × Int → (Int × Int → Option Bool) → Option Bool := fun (v34, v36) next40 =>
  (bif ((decide (v36 ≤ (p0.in_.length : Int))) && (decide (v34 ≥ 0))) then (bif (v34 == v22) then some false else (geti p0.in_ v34).bind fun x41 => next40 (x41, w64 (v36 + 1))) else next24 (w64 (v22 + 1)))
def f51_b4 (p0 : FerryWorld) (v51 : Int) (next53 : (Int → Option Bool)) (x54 : (List FerryEntry)) : Int → (Int → Option Bool) → Option Bool := fun v70 next72 =>
  (bif decide (v70 < (x54.length : Int)) then (geti x54 v70).bind fun x73 => (bif (((((decide (x73.age < 0)) || (decide (x73.age > 30))) || (decide (x73.to_ < 0))) || (decide (x73.to_ ≥ (p0.entries.length : Int)))) || (x73.here != (x73.to_ == v51))) then some false else next72 (w64 (v70 + 1))) else next53 (w64 (v51 + 1)))
def f51_b6 (p0 : FerryWorld) (v85 : Int) (next87 : (Int → Option Bool)) (x88 : FerryLetter) : Int → (Int → Option Bool) → Option Bool := fun v109 next111 =>
  (bif decide (v109 < (x88.places.length : Int)) then (geti x88.places v109).bind fun x112 => (gd ((!((decide (x112 < 0)) || (decide (x112 ≥ (p0.in_.length : Int))))) && (decide (v109 > 0))) (geti x88.places (w64 (v109 - 1))) default).bind fun x115 => (gd (!(((decide (x112 < 0)) || (decide (x112 ≥ (p0.in_.length : Int)))) || ((decide (v109 > 0)) && (decide (x112 ≤ x115))))) (geti x88.ages v109) default).bind fun x118 => (gd (!((((decide (x112 < 0)) || (decide (x112 ≥ (p0.in_.length : Int)))) || ((decide (v109 > 0)) && (decide (x112 ≤ x115)))) || (decide (x118 < 1)))) (geti x88.ages v109) default).bind fun x121 => (bif (((((decide (x112 < 0)) || (decide (x112 ≥ (p0.in_.length : Int)))) || ((decide (v109 > 0)) && (decide (x112 ≤ x115)))) || (decide (x118 < 1))) || (decide (x121 > 30))) then some false else next111 (w64 (v109 + 1))) else (bif ((x88.kind == 3) && (((decide (x88.place < 0)) || (decide (x88.place ≥ (p0.in_.length : Int)))) || (x88.at_ == x88.to_))) then some false else next87 (w64 (v85 + 1))))
def f51_b5 (F : Nat) (p0 : FerryWorld) : Int → (Int → Option Bool) → Option Bool := fun v85 next87 =>
  (bif decide (v85 < (p0.wire.length : Int)) then (geti p0.wire v85).bind fun x88 => (gd (!((decide (x88.to_ < 0)) || (decide (x88.to_ ≥ (p0.entries.length : Int))))) (f86L x88) default).bind fun x98 => (bif (((decide (x88.to_ < 0)) || (decide (x88.to_ ≥ (p0.entries.length : Int)))) || (!x98)) then some false else loop F (f51_b6 p0 v85 next87 x88) 0) else some true)
def f51_b3 (F : Nat) (p0 : FerryWorld) : Int → (Int → Option Bool) → Option Bool := fun v51 next53 =>
  (bif decide (v51 < (p0.entries.length : Int)) then (geti p0.entries v51).bind fun x54 => (bif ((x54.length : Int) != (p0.in_.length : Int)) then some false else loop F (f51_b4 p0 v51 next53 x54) 0) else loop F (f51_b5 F p0) 0)
def f51_b1 (F : Nat) (p0 : FerryWorld) : Int → (Int → Option Bool) → Option Bool := fun v22 next24 =>
  (bif decide (v22 < (p0.in_.length : Int)) then (geti p0.in_ v22).bind fun x25 => loop F (f51_b2 p0 v22 next24) (x25, 0) else loop F (f51_b3 F p0) 0)
def f51_b0 (F : Nat) (p0 : FerryWorld) : Int → (Int → Option Bool) → Option Bool := fun v10 next12 =>
  (bif decide (v10 < (p0.in_.length : Int)) then (geti p0.in_ v10).bind fun x13 => (bif ((decide (x13 < (-1))) || (decide (x13 ≥ (p0.in_.length : Int)))) then some false else next12 (w64 (v10 + 1))) else loop F (f51_b1 F p0) 0)
def f51L (F : Nat) (p0 : FerryWorld) : Option Bool :=
  (bif ((((((((decide ((p0.in_.length : Int) < 1)) || (decide ((p0.in_.length : Int) > 8))) || (decide ((p0.entries.length : Int) < 1))) || (decide ((p0.entries.length : Int) > 5))) || ((p0.boxes.length : Int) != (p0.in_.length : Int))) || ((p0.held.length : Int) != (p0.entries.length : Int))) || (decide (p0.said < 0))) || (decide (p0.said > 40))) then some false else loop F (f51_b0 F p0) 0)
def f78L (F : Nat) (p0 : (List Int)) (p1 : Int) : Option Bool :=
  (f99L F p0 p1).bind fun x1 => some (decide (x1 ≥ 0))
end Go.Proofs.YtbmbbcaaimehkaaGreat
end
section
set_option linter.unusedVariables false
set_option linter.unusedSimpArgs false
set_option maxRecDepth 20000
noncomputable section
namespace Go.Proofs.YtbmbbcaaimehkaaGreat
open Go.Abs Go.Lf
theorem f51_wf {F : Nat} {wm : Nat} {h : H} {p0 : FerryWorld} {pa0_0 : Option Addr} {pc0_0 : Nat} {pa0_1 : Option Addr} {pc0_1 : Nat} {pa0_2 : Option Addr} {pc0_2 : Nat} {pa0_3 : Option Addr} {pc0_3 : Nat} {pa0_4 : Option Addr} {pc0_4 : Nat} {r : Bool} (hwm : wm ≤ h.size) (hsp0_0 : Sl (rInt .i64) wm h pa0_0 pc0_0 p0.in_) (hsp0_1 : Sl (rSl (rInt .i64)) wm h pa0_1 pc0_1 p0.boxes) (hsp0_2 : Sl (rSl rFerryEntry) wm h pa0_2 pc0_2 p0.entries) (hsp0_3 : Sl (rSl rFerryMail) wm h pa0_3 pc0_3 p0.held) (hsp0_4 : Sl rFerryLetter wm h pa0_4 pc0_4 p0.wire) (hL : f51L F p0 = some r) :
    WR XX 51 #[.agg [.slice pa0_0 p0.in_.length pc0_0, .slice pa0_1 p0.boxes.length pc0_1, .slice pa0_2 p0.entries.length pc0_2, .slice pa0_3 p0.held.length pc0_3, .slice pa0_4 p0.wire.length pc0_4, .int .i64 p0.said].toArray] wm h (CP (fun (v : Value) (Gb : List (Ast wm)) => v = .bool r ∧ Gb = []) [] h) := by
 refine bg Tryz.ntmps51 hwm Hold.nil ?_
 intro T hT hS
 unfold f51L at hL
 refine r3 ?_
 rintro _ h2 ⟨b1, eb1, rfl, hS⟩
 refine r4 ?_
 refine WC.drawX mixed (by kernel_rfl) ?_
 refine r16 ?_
 refine r16 ?_
 refine r16 ?_
 refine r4 ?_
 refine r1 ?_
 refine cn hL ?_ ?_
 · intro hc hL
   refine r6 ?_
   refine r1 ?_
   exact rt hL hT hS
 · intro hc hL
   refine r12 ?_
   refine WC.loop (WL.lift hL (fun (v10 : Int) (s : Fs) => ∃ (fr4 : Fr) (h3 : H), s = ⟨fr4, [], h3, none⟩ ∧ Sp wm T h [bx wm b1 [.slice pa0_0 p0.in_.length pc0_0, .slice pa0_1 p0.boxes.length pc0_1, .slice pa0_2 p0.entries.length pc0_2, .slice pa0_3 p0.held.length pc0_3, .slice pa0_4 p0.wire.length pc0_4, .int .i64 p0.said]] h3 ∧ fr4.at 1 = .pointer (some ⟨b1, 0, none⟩) ∧ fr4.at 3 = .int .i64 (p0.in_.length : Int) ∧ fr4.at 4 = .int .i64 (p0.entries.length : Int) ∧ fr4.at 63 = .slice pa0_0 p0.in_.length pc0_0 ∧ fr4.at 64 = .int .i64 (p0.in_.length : Int) ∧ fr4.at 65 = .int .i64 v10) ⟨_, _, rfl, hS.only (.c k0 .n), las⟩ ?_)
   clear hL hS
   rintro next12 v10 s hnext12 hL ⟨fr4, h3, rfl, hS, e5, e6, e7, e8, e9, e11⟩
   dsimp only [f51_b0] at hL
   refine r6 ?_
   refine cn hL ?_ ?_
   · intro hc hL
     refine r6 ?_
     obtain ⟨x13, hx13, hL⟩ := bind_some hL
     obtain ⟨b14, o15, _, hab14, hAb14, hBb14, hFb14⟩ := Sl.at_ hsp0_0 hx13
     refine WO.w gN rfl (av_ixn und22 size3 lk lk rfl hab14 hx13) ?_
     refine WO.w gN rfl (av_ld agg3 (evT fh rfl) (At.fz hS.fz hBb14 hAb14) (j := 0) rfl (v := .int .i64 x13) rfl) ?_
     refine r12 ?_
     refine r2 ?_
     refine cn hL ?_ ?_
     · intro hc hL
       refine r8 ?_
       refine r3 ?_
       exact rt hL hT hS
     · intro hc hL
       refine r6 ?_
       refine r1 ?_
       exact LoopK.nrm (hnext12 _ _ hL ⟨_, _, rfl, hS.only (.c k0 .n), las⟩)
   · intro hc hL
     refine r12 ?_
     refine r3 ?_
     refine WC.loop (WL.lift hL (fun (v22 : Int) (s : Fs) => ∃ (fr17 : Fr) (h16 : H), s = ⟨fr17, [], h16, none⟩ ∧ Sp wm T h [bx wm b1 [.slice pa0_0 p0.in_.length pc0_0, .slice pa0_1 p0.boxes.length pc0_1, .slice pa0_2 p0.entries.length pc0_2, .slice pa0_3 p0.held.length pc0_3, .slice pa0_4 p0.wire.length pc0_4, .int .i64 p0.said]] h16 ∧ fr17.at 1 = .pointer (some ⟨b1, 0, none⟩) ∧ fr17.at 3 = .int .i64 (p0.in_.length : Int) ∧ fr17.at 4 = .int .i64 (p0.entries.length : Int) ∧ fr17.at 79 = .int .i64 (p0.in_.length : Int) ∧ fr17.at 80 = .int .i64 v22) ⟨_, _, rfl, hS.only (.c k0 .n), las⟩ ?_)
     clear hL hS
     rintro next24 v22 s hnext24 hL ⟨fr17, h16, rfl, hS, e18, e19, e20, e21, e23⟩
     dsimp only [f51_b1] at hL
     refine r6 ?_
     refine cn hL ?_ ?_
     · intro hc hL
       refine r12 ?_
       refine r3 ?_
       obtain ⟨x25, hx25, hL⟩ := bind_some hL
       obtain ⟨b26, o27, _, hab26, hAb26, hBb26, hFb26⟩ := Sl.at_ hsp0_0 hx25
       refine WO.w gN rfl (av_ixn und22 size3 lk lk rfl hab26 hx25) ?_
       refine WO.w gN rfl (av_ld agg3 (evT fh rfl) (At.fz hS.fz hBb26 hAb26) (j := 0) rfl (v := .int .i64 x25) rfl) ?_
       refine r8 ?_
       refine r1 ?_
       refine WC.loop (WL.lift hL (fun (p : Int × Int) (s : Fs) => match p with | (v34, v36) => ∃ (fr29 : Fr) (h28 : H), s = ⟨fr29, [], h28, none⟩ ∧ Sp wm T h [bx wm b1 [.slice pa0_0 p0.in_.length pc0_0, .slice pa0_1 p0.boxes.length pc0_1, .slice pa0_2 p0.entries.length pc0_2, .slice pa0_3 p0.held.length pc0_3, .slice pa0_4 p0.wire.length pc0_4, .int .i64 p0.said]] h28 ∧ fr29.at 1 = .pointer (some ⟨b1, 0, none⟩) ∧ fr29.at 3 = .int .i64 (p0.in_.length : Int) ∧ fr29.at 4 = .int .i64 (p0.entries.length : Int) ∧ fr29.at 7 = .int .i64 v22 ∧ fr29.at 8 = .int .i64 v34 ∧ fr29.at 9 = .int .i64 v36 ∧ fr29.at 79 = .int .i64 (p0.in_.length : Int) ∧ fr29.at 80 = .int .i64 v22) ⟨_, _, rfl, hS.only (.c k0 .n), las⟩ ?_)
       clear hL hS
       rintro next40 ⟨v34, v36⟩ s hnext40 hL ⟨fr29, h28, rfl, hS, e30, e31, e32, e33, e35, e37, e38, e39⟩
       dsimp only [f51_b2] at hL
       refine r12 ?_
       refine cn hL ?_ ?_
       · intro hc hL
         refine r12 ?_
         refine cn hL ?_ ?_
         · intro hc hL
           refine r16 ?_
           exact rt hL hT hS
         · intro hc hL
           refine r6 ?_
           obtain ⟨x41, hx41, hL⟩ := bind_some hL
           obtain ⟨b42, o43, _, hab42, hAb42, hBb42, hFb42⟩ := Sl.at_ hsp0_0 hx41
           refine WO.w gN rfl (av_ixn und22 size3 lk lk rfl hab42 hx41) ?_
           refine WO.w gN rfl (av_ld agg3 (evT fh rfl) (At.fz hS.fz hBb42 hAb42) (j := 0) rfl (v := .int .i64 x41) rfl) ?_
           refine r8 ?_
           refine r1 ?_
           exact LoopK.nrm (hnext40 _ _ hL ⟨_, _, rfl, hS.only (.c k0 .n), las⟩)
       · intro hc hL
         refine r8 ?_
         refine r2 ?_
         exact LoopK.nrm (hnext24 _ _ hL ⟨_, _, rfl, hS.only (.c k0 .n), las⟩)
     · intro hc hL
       refine r12 ?_
       refine r3 ?_
       refine WC.loop (WL.lift hL (fun (v51 : Int) (s : Fs) => ∃ (fr45 : Fr) (h44 : H), s = ⟨fr45, [], h44, none⟩ ∧ Sp wm T h [bx wm b1 [.slice pa0_0 p0.in_.length pc0_0, .slice pa0_1 p0.boxes.length pc0_1, .slice pa0_2 p0.entries.length pc0_2, .slice pa0_3 p0.held.length pc0_3, .slice pa0_4 p0.wire.length pc0_4, .int .i64 p0.said]] h44 ∧ fr45.at 1 = .pointer (some ⟨b1, 0, none⟩) ∧ fr45.at 3 = .int .i64 (p0.in_.length : Int) ∧ fr45.at 4 = .int .i64 (p0.entries.length : Int) ∧ fr45.at 107 = .slice pa0_2 p0.entries.length pc0_2 ∧ fr45.at 108 = .int .i64 (p0.entries.length : Int) ∧ fr45.at 109 = .int .i64 v51) ⟨_, _, rfl, hS.only (.c k0 .n), las⟩ ?_)
       clear hL hS
       rintro next53 v51 s hnext53 hL ⟨fr45, h44, rfl, hS, e46, e47, e48, e49, e50, e52⟩
       dsimp only [f51_b3] at hL
       refine r6 ?_
       refine cn hL ?_ ?_
       · intro hc hL
         refine r6 ?_
         refine r1 ?_
         obtain ⟨x54, hx54, hL⟩ := bind_some hL
         obtain ⟨b55, o56, ⟨a57, c58⟩, hab55, hAb55, hBb55, hFb55⟩ := Sl.at_ hsp0_2 hx54
         refine WO.w gN rfl (av_ixn und25 size64 lk lk rfl hab55 hx54) ?_
         have hsa57 : Sl rFerryEntry wm h a57 c58 x54 := hFb55
         refine WO.w gN rfl (av_ld agg64 (evT fh rfl) (At.fz hS.fz hBb55 hAb55) (j := 0) rfl (v := .slice a57 x54.length c58) rfl) ?_
         refine r12 ?_
         refine r1 ?_
         refine cn hL ?_ ?_
         · intro hc hL
           refine r12 ?_
           exact rt hL hT hS
         · intro hc hL
           refine r8 ?_
           refine r2 ?_
           refine WC.loop (WL.lift hL (fun (v70 : Int) (s : Fs) => ∃ (fr60 : Fr) (h59 : H), s = ⟨fr60, [], h59, none⟩ ∧ Sp wm T h [bx wm b1 [.slice pa0_0 p0.in_.length pc0_0, .slice pa0_1 p0.boxes.length pc0_1, .slice pa0_2 p0.entries.length pc0_2, .slice pa0_3 p0.held.length pc0_3, .slice pa0_4 p0.wire.length pc0_4, .int .i64 p0.said]] h59 ∧ fr60.at 1 = .pointer (some ⟨b1, 0, none⟩) ∧ fr60.at 3 = .int .i64 (p0.in_.length : Int) ∧ fr60.at 4 = .int .i64 (p0.entries.length : Int) ∧ fr60.at 10 = .int .i64 v51 ∧ fr60.at 107 = .slice pa0_2 p0.entries.length pc0_2 ∧ fr60.at 108 = .int .i64 (p0.entries.length : Int) ∧ fr60.at 109 = .int .i64 v51 ∧ fr60.at 118 = .slice a57 x54.length c58 ∧ fr60.at 119 = .int .i64 (x54.length : Int) ∧ fr60.at 120 = .int .i64 v70) ⟨_, _, rfl, hS.only (.c k0 .n), las⟩ ?_)
           clear hL hS
           rintro next72 v70 s hnext72 hL ⟨fr60, h59, rfl, hS, e61, e62, e63, e64, e65, e66, e67, e68, e69, e71⟩
           dsimp only [f51_b4] at hL
           refine r6 ?_
           refine cn hL ?_ ?_
           · intro hc hL
             refine r6 ?_
             obtain ⟨x73, hx73, hL⟩ := bind_some hL
             obtain ⟨b74, o75, _, hab74, hAb74, hBb74, hFb74⟩ := Sl.at_ hsa57 hx73
             refine WO.w gN rfl (av_ixn und64 size63 lk lk rfl hab74 hx73) ?_
             refine WO.w gN rfl (av_ldA agg63 size63 (evT fh rfl) (At.fz hS.fz hBb74 hAb74) (j := 0) rfl rfl (ws := [.bool x73.here, .int .i64 x73.to_, .int .i64 x73.age]) rfl) ?_
             refine r1 ?_
             rintro _ h77 ⟨b76, eb76, rfl, hS⟩
             refine r1 ?_
             rintro h78 hS
             refine r16 ?_
             refine r12 ?_
             refine r2 ?_
             refine WO.gv (GuardIs.no rfl rfl rfl (fs4 rfl (fs2 rfl fh))) rfl (fun hg => (av_bin (evG (fs4 rfl fh) rfl hg) (evG fh rfl hg) (abin_neqB und4))) ?_
             refine r3 ?_
             refine cn hL ?_ ?_
             · intro hc hL
               refine r12 ?_
               refine r3 ?_
               exact rt hL hT hS
             · intro hc hL
               refine r6 ?_
               refine r1 ?_
               exact LoopK.nrm (hnext72 _ _ hL ⟨_, _, rfl, hS.only (.c k1 .n), las⟩)
           · intro hc hL
             refine r8 ?_
             refine r2 ?_
             exact LoopK.nrm (hnext53 _ _ hL ⟨_, _, rfl, hS.only (.c k0 .n), las⟩)
       · intro hc hL
         refine r12 ?_
         refine r3 ?_
         refine WC.loop (WL.lift hL (fun (v85 : Int) (s : Fs) => ∃ (fr80 : Fr) (h79 : H), s = ⟨fr80, [], h79, none⟩ ∧ Sp wm T h [] h79 ∧ fr80.at 3 = .int .i64 (p0.in_.length : Int) ∧ fr80.at 4 = .int .i64 (p0.entries.length : Int) ∧ fr80.at 155 = .slice pa0_4 p0.wire.length pc0_4 ∧ fr80.at 156 = .int .i64 (p0.wire.length : Int) ∧ fr80.at 157 = .int .i64 v85) ⟨_, _, rfl, hS.only .n, las⟩ ?_)
         clear hL hS
         rintro next87 v85 s hnext87 hL ⟨fr80, h79, rfl, hS, e81, e82, e83, e84, e86⟩
         dsimp only [f51_b5] at hL
         refine r6 ?_
         refine cn hL ?_ ?_
         · intro hc hL
           refine r6 ?_
           obtain ⟨x88, hx88, hL⟩ := bind_some hL
           obtain ⟨b89, o90, ⟨⟨a91, c92⟩, ⟨a93, c94⟩⟩, hab89, hAb89, hBb89, hFb89⟩ := Sl.at_ hsp0_4 hx88
           refine WO.w gN rfl (av_ixn und27 size95 lk lk rfl hab89 hx88) ?_
           have hsa91 : Sl (rInt .i64) wm h a91 c92 x88.places := hFb89.1
           have hsa93 : Sl (rInt .i64) wm h a93 c94 x88.ages := hFb89.2
           refine WO.w gN rfl (av_ldA agg95 size95 (evT fh rfl) (At.fz hS.fz hBb89 hAb89) (j := 0) rfl rfl (ws := [.int .i64 x88.kind, .int .i64 x88.to_, .int .i64 x88.mail.msg, .int .i64 x88.mail.place, .int .i64 x88.mail.from_, .int .i64 x88.mail.age, .int .i64 x88.mail.hops, .slice a91 x88.places.length c92, .slice a93 x88.ages.length c94, .int .i64 x88.place, .int .i64 x88.at_, .int .i64 x88.age]) rfl) ?_
           refine r1 ?_
           rintro _ h96 ⟨b95, eb95, rfl, hS⟩
           refine r1 ?_
           rintro h97 hS
           refine r16 ?_
           obtain ⟨x98, hx98, hL⟩ := gd_some hL
           refine WO.gcp (GuardIs.no rfl rfl rfl (fskip rfl fh)) rfl (fun hg => (Ent.fn has86 (evs_cons (evG fh rfl hg) evs_nil))) (fun hg => f86_ok (hS.slu hsa91) (hS.slu hsa93) (hx98 hg)) ?_
           refine r4 ?_
           refine cn hL ?_ ?_
           · intro hc hL
             refine r12 ?_
             exact rt hL hT hS
           · intro hc hL
             refine r12 ?_
             refine WC.loop (WL.lift hL (fun (v109 : Int) (s : Fs) => ∃ (fr100 : Fr) (h99 : H), s = ⟨fr100, [], h99, none⟩ ∧ Sp wm T h [bx wm b95 [.int .i64 x88.kind, .int .i64 x88.to_, .int .i64 x88.mail.msg, .int .i64 x88.mail.place, .int .i64 x88.mail.from_, .int .i64 x88.mail.age, .int .i64 x88.mail.hops, .slice a91 x88.places.length c92, .slice a93 x88.ages.length c94, .int .i64 x88.place, .int .i64 x88.at_, .int .i64 x88.age]] h99 ∧ fr100.at 3 = .int .i64 (p0.in_.length : Int) ∧ fr100.at 4 = .int .i64 (p0.entries.length : Int) ∧ fr100.at 15 = .pointer (some ⟨b95, 0, none⟩) ∧ fr100.at 155 = .slice pa0_4 p0.wire.length pc0_4 ∧ fr100.at 156 = .int .i64 (p0.wire.length : Int) ∧ fr100.at 157 = .int .i64 v85 ∧ fr100.at 176 = .slice a91 x88.places.length c92 ∧ fr100.at 177 = .int .i64 (x88.places.length : Int) ∧ fr100.at 178 = .int .i64 v109) ⟨_, _, rfl, hS.only (.c k0 .n), las⟩ ?_)
             clear hL hS
             rintro next111 v109 s hnext111 hL ⟨fr100, h99, rfl, hS, e101, e102, e103, e104, e105, e106, e107, e108, e110⟩
             dsimp only [f51_b6] at hL
             refine r6 ?_
             refine cn hL ?_ ?_
             · intro hc hL
               refine r6 ?_
               refine r1 ?_
               obtain ⟨x112, hx112, hL⟩ := bind_some hL
               obtain ⟨b113, o114, _, hab113, hAb113, hBb113, hFb113⟩ := Sl.at_ hsa91 hx112
               refine WO.w gN rfl (av_ixn und22 size3 lk lk rfl hab113 hx112) ?_
               refine WO.w gN rfl (av_ld agg3 (evT fh rfl) (At.fz hS.fz hBb113 hAb113) (j := 0) rfl (v := .int .i64 x112) rfl) ?_
               refine r16 ?_
               refine r6 ?_
               obtain ⟨x115, hx115, hL⟩ := gd_some hL
               obtain ⟨b116, o117, _, hQ⟩ := Sl.atG (fun hg => hsa91) hx115
               have hab116 := fun hg => (hQ hg).1
               have hAb116 := fun hg => (hQ hg).2.1
               have hBb116 := fun hg => (hQ hg).2.2.1
               have hFb116 := fun hg => (hQ hg).2.2.2
               refine WO.gv (GuardIs.yes2 rfl rfl rfl (fs4 rfl (fskip rfl fh))) rfl (fun hg => (av_ixn und22 size3 (evG (fs2 rfl fh) rfl hg) (evG fh rfl hg) rfl (hab116 hg) (hx115 hg))) ?_
               refine WO.gv (GuardIs.yes2 rfl rfl rfl (fs4 rfl (fs2 rfl fh))) rfl (fun hg => (av_ld agg3 (evG fh rfl hg) (At.fz hS.fz (hBb116 hg) (hAb116 hg)) (j := 0) rfl (v := .int .i64 x115) rfl)) ?_
               refine r1 ?_
               refine WO.gv (GuardIs.no rfl rfl rfl (fs8 rfl (fs2 rfl (fskip rfl fh)))) rfl (fun hg => (av_and (evG (fs8 rfl fh) rfl hg) (evGU2 fh hg) lk)) ?_
               refine r4 ?_
               refine r1 ?_
               obtain ⟨x118, hx118, hL⟩ := gd_some hL
               obtain ⟨b119, o120, _, hQ⟩ := Sl.atG (fun hg => hsa93) hx118
               have hab119 := fun hg => (hQ hg).1
               have hAb119 := fun hg => (hQ hg).2.1
               have hBb119 := fun hg => (hQ hg).2.2.1
               have hFb119 := fun hg => (hQ hg).2.2.2
               refine WO.gv (GuardIs.no rfl rfl rfl (fs2 rfl (fskip rfl fh))) rfl (fun hg => (av_ixn und22 size3 (evG (fskip rfl fh) rfl hg) (evG fh rfl hg) rfl (hab119 hg) (hx118 hg))) ?_
               refine WO.gv (GuardIs.no rfl rfl rfl (fs4 rfl fh)) rfl (fun hg => (av_ld agg3 (evG fh rfl hg) (At.fz hS.fz (hBb119 hg) (hAb119 hg)) (j := 0) rfl (v := .int .i64 x118) rfl)) ?_
               refine r6 ?_
               obtain ⟨x121, hx121, hL⟩ := gd_some hL
               obtain ⟨b122, o123, _, hQ⟩ := Sl.atG (fun hg => hsa93) hx121
               have hab122 := fun hg => (hQ hg).1
               have hAb122 := fun hg => (hQ hg).2.1
               have hBb122 := fun hg => (hQ hg).2.2.1
               have hFb122 := fun hg => (hQ hg).2.2.2
               refine WO.gv (GuardIs.no rfl rfl rfl (fs2 rfl (fskip rfl fh))) rfl (fun hg => (av_ixn und22 size3 (evG (fskip rfl fh) rfl hg) (evG fh rfl hg) rfl (hab122 hg) (hx121 hg))) ?_
               refine WO.gv (GuardIs.no rfl rfl rfl (fs4 rfl fh)) rfl (fun hg => (av_ld agg3 (evG fh rfl hg) (At.fz hS.fz (hBb122 hg) (hAb122 hg)) (j := 0) rfl (v := .int .i64 x121) rfl)) ?_
               refine r4 ?_
               refine cn hL ?_ ?_
               · intro hc hL
                 refine r16 ?_
                 exact rt hL hT hS
               · intro hc hL
                 refine r6 ?_
                 refine r1 ?_
                 exact LoopK.nrm (hnext111 _ _ hL ⟨_, _, rfl, hS.only (.c k0 .n), las⟩)
             · intro hc hL
               refine r16 ?_
               refine r3 ?_
               refine WO.gv (GuardIs.yes rfl rfl rfl (fs8 rfl fh)) rfl (fun hg => (av_or (evG (fs4 rfl fh) rfl hg) lk (evGU2 fh hg))) ?_
               refine r6 ?_
               refine WO.gv (GuardIs.yes rfl rfl rfl (fs8 rfl (fs4 rfl (fs2 rfl (fskip rfl fh))))) rfl (fun hg => (av_or (evG (fs4 rfl (fskip rfl fh)) rfl hg) lk (evGU2 fh hg))) ?_
               refine r3 ?_
               refine cn hL ?_ ?_
               · intro hc hL
                 refine r8 ?_
                 refine r3 ?_
                 exact rt hL hT hS
               · intro hc hL
                 refine r6 ?_
                 refine r1 ?_
                 exact LoopK.nrm (hnext87 _ _ hL ⟨_, _, rfl, hS.only .n, las⟩)
         · intro hc hL
           refine r8 ?_
           refine r3 ?_
           exact rt hL hT hS
theorem f78_wf {F : Nat} {wm : Nat} {h : H} {p0 : (List Int)} {p1 : Int} {pa0_0 : Option Addr} {pc0_0 : Nat} {r : Bool} (hwm : wm ≤ h.size) (hsp0_0 : Sl (rInt .i64) wm h pa0_0 pc0_0 p0) (hL : f78L F p0 p1 = some r) :
    WR XX 78 #[.slice pa0_0 p0.length pc0_0, .int .i64 p1] wm h (CP (fun (v : Value) (Gb : List (Ast wm)) => v = .bool r ∧ Gb = []) [] h) := by
 refine bg Tryz.ntmps78 hwm Hold.nil ?_
 intro T hT hS
 unfold f78L at hL
 refine r8 ?_
 refine r1 ?_
 obtain ⟨x1, hx1, hL⟩ := bind_some hL
 refine WO.cp gN rfl (Ent.fn has99 (evs_cons lk (evs_cons lk evs_nil))) (WR.pureC rfl (f99_wf (Nat.le_refl _) (hS.slu hsp0_0) hx1)) ?_
 refine r4 ?_
 refine r1 ?_
 exact rt hL hT hS
theorem f78_ok {F : Nat} {h : H} {p0 : (List Int)} {p1 : Int} {pa0_0 : Option Addr} {pc0_0 : Nat} {r : Bool} (hsp0_0 : Sl (rInt .i64) h.size h pa0_0 pc0_0 p0) (hL : f78L F p0 p1 = some r) : Pure XX 78 #[.slice pa0_0 p0.length pc0_0, .int .i64 p1] h (.bool r) :=
 WR.pureC rfl (f78_wf (Nat.le_refl _) hsp0_0 hL)
end Go.Proofs.YtbmbbcaaimehkaaGreat
end
end
section
set_option linter.unusedVariables false
set_option linter.unusedSimpArgs false
namespace Go.Proofs.YtbmbbcaaimehkaaGreat
open Go.Lf
end Go.Proofs.YtbmbbcaaimehkaaGreat
end
section
set_option linter.unusedVariables false
set_option linter.unusedSimpArgs false
set_option maxRecDepth 20000
noncomputable section
namespace Go.Proofs.YtbmbbcaaimehkaaGreat
open Go.Abs Go.Lf
end Go.Proofs.YtbmbbcaaimehkaaGreat
end
end
section
set_option linter.unusedVariables false
set_option linter.unusedSimpArgs false
namespace Go.Proofs.YtbmbbcaaimehkaaGreat
open Go.Lf
def f92_j0 : Int → Option Bool := fun v7 =>
  some (decide (v7 ≥ 0))
def f92_b0 (F : Nat) (p0 : Inspector) (p1 : Int) (p2 : Int) : Int → (Int → Option Bool) → Option Bool := fun v13 next15 =>
  (bif decide (v13 < (p0.ferryWorld.wire.length : Int)) then (geti p0.ferryWorld.wire v13).bind fun x16 => (gd (x16.kind == 2) (f78L F x16.places p1) default).bind fun x25 => (gd ((x16.kind == 2) && x25) (f78L F x16.places p2) default).bind fun x26 => (bif (((x16.kind == 2) && x25) && x26) then (f92_j0) v13 else next15 (w64 (v13 + 1))) else (f92_j0) (-1))
def f92L (F : Nat) (p0 : Inspector) (p1 : Int) (p2 : Int) : Option Bool :=
  loop F (f92_b0 F p0 p1 p2) 0
def f93L (p0 : Inspector) (p1 : Int) (p2 : Int) (p3 : Int) : Option Bool :=
  (geti p0.spots p1).bind fun x1 => (gd (!((decide (p3 < 0)) || (decide (p3 > x1.age)))) (f95L p0 p2) default).bind fun x7 => (bif (((decide (p3 < 0)) || (decide (p3 > x1.age))) || (!x7)) then some false else (bif (p3 == x1.age) then some (p2 == x1.machine) else (geti p0.ferryWorld.entries p2).bind fun x8 => (geti x8 p1).bind fun x13 => some (decide (x13.age > p3))))
end Go.Proofs.YtbmbbcaaimehkaaGreat
end
section
set_option linter.unusedVariables false
set_option linter.unusedSimpArgs false
set_option maxRecDepth 20000
noncomputable section
namespace Go.Proofs.YtbmbbcaaimehkaaGreat
open Go.Abs Go.Lf
theorem f92_wf {F : Nat} {wm : Nat} {h : H} {p0 : Inspector} {p1 : Int} {p2 : Int} {pa0_0 : Option Addr} {pc0_0 : Nat} {pa0_1 : Option Addr} {pc0_1 : Nat} {pa0_2 : Option Addr} {pc0_2 : Nat} {pa0_3 : Option Addr} {pc0_3 : Nat} {pa0_4 : Option Addr} {pc0_4 : Nat} {pa0_5 : Option Addr} {pc0_5 : Nat} {pb0 : Nat} {po0 : Nat} {r : Bool} (hwm : wm ≤ h.size) (hAp0 : At h pb0 po0 [.slice pa0_0 p0.ferryWorld.in_.length pc0_0, .slice pa0_1 p0.ferryWorld.boxes.length pc0_1, .slice pa0_2 p0.ferryWorld.entries.length pc0_2, .slice pa0_3 p0.ferryWorld.held.length pc0_3, .slice pa0_4 p0.ferryWorld.wire.length pc0_4, .int .i64 p0.ferryWorld.said, .slice pa0_5 p0.spots.length pc0_5]) (hBp0 : Stb wm h pb0) (hsp0_0 : Sl (rInt .i64) wm h pa0_0 pc0_0 p0.ferryWorld.in_) (hsp0_1 : Sl (rSl (rInt .i64)) wm h pa0_1 pc0_1 p0.ferryWorld.boxes) (hsp0_2 : Sl (rSl rFerryEntry) wm h pa0_2 pc0_2 p0.ferryWorld.entries) (hsp0_3 : Sl (rSl rFerryMail) wm h pa0_3 pc0_3 p0.ferryWorld.held) (hsp0_4 : Sl rFerryLetter wm h pa0_4 pc0_4 p0.ferryWorld.wire) (hsp0_5 : Sl rSpot_ wm h pa0_5 pc0_5 p0.spots) (hL : f92L F p0 p1 p2 = some r) :
    WR XX 92 #[.pointer (some ⟨pb0, po0, none⟩), .int .i64 p1, .int .i64 p2] wm h (CP (fun (v : Value) (Gb : List (Ast wm)) => v = .bool r ∧ Gb = []) [] h) := by
 refine bg Tryz.ntmps92 hwm Hold.nil ?_
 intro T hT hS
 unfold f92L at hL
 refine r3 ?_
 rintro _ h2 ⟨b1, eb1, rfl, hS⟩
 refine r1 ?_
 rintro _ h4 ⟨b3, eb3, rfl, hS⟩
 refine r8 ?_
 refine r1 ?_
 refine WO.w gN rfl (av_ld agg27 (evT fh rfl) (At.fz hS.fz hBp0 hAp0) (j := 4) rfl (v := .slice pa0_4 p0.ferryWorld.wire.length pc0_4) rfl) ?_
 refine WO.w gN rfl (av_mkf (evs_cons lk (evs_cons lk evs_nil))) ?_
 refine WO.inl gN rfl (Ent.fn has105 (evs_cons lk (evs_cons lk evs_nil))) (WF.begin (args := [_, _]) (fn := Tryz.f105) (by kernel_rfl) (by exact rfl) Tryz.ntmps105 (by simp) ?_)
 simp only [frameOf_cons, frameOf_nil, Nat.reduceAdd]
 refine r8 ?_
 refine r1 ?_
 refine WO.inlJ (r := r) (fun (v7 : Int) (v : Value) (h5 : H) => v = .int .i64 v7 ∧ Sp wm T h [bx wm b1 [.int .i64 p1], bx wm b3 [.int .i64 p2]] h5) (f92_j0) gN rfl (Ent.fn has109 (evs_cons lk (evs_cons lk evs_nil))) ?_ (WF.begin (args := [_, _]) (fn := Tryz.f109) (by kernel_rfl) (by exact rfl) Tryz.ntmps109 (by simp) ?_)
 · clear hL hS
   rintro v7 v h5 hL ⟨rfl, hS⟩
   dsimp only [f92_j0] at hL
   refine r4 ?_
   refine r1 ?_
   refine RetK.gen1 rfl (ares_tmp lk ares_nil) ?_
   refine r4 ?_
   exact rt hL hT hS
 · skip
   simp only [frameOf_cons, frameOf_nil, Nat.reduceAdd]
   refine r12 ?_
   refine r2 ?_
   refine WC.loop (WL.lift hL (fun (v13 : Int) (s : Fs) => ∃ (fr9 : Fr) (h8 : H), s = ⟨fr9, [], h8, none⟩ ∧ Sp wm T h [bx wm b1 [.int .i64 p1], bx wm b3 [.int .i64 p2]] h8 ∧ fr9.at 0 = .slice pa0_4 p0.ferryWorld.wire.length pc0_4 ∧ fr9.at 1 = .func (.func 106) #[] [.pointer (some ⟨b1, 0, none⟩), .pointer (some ⟨b3, 0, none⟩)].toArray ∧ fr9.at 7 = .int .i64 (p0.ferryWorld.wire.length : Int) ∧ fr9.at 8 = .int .i64 v13) ⟨_, _, rfl, hS.only (.c k1 (.c k0 .n)), las⟩ ?_)
   clear hL hS
   rintro next15 v13 s hnext15 hL ⟨fr9, h8, rfl, hS, e10, e11, e12, e14⟩
   dsimp only [f92_b0] at hL
   refine r6 ?_
   refine cn hL ?_ ?_
   · intro hc hL
     refine r12 ?_
     refine r3 ?_
     obtain ⟨x16, hx16, hL⟩ := bind_some hL
     obtain ⟨b17, o18, ⟨⟨a19, c20⟩, ⟨a21, c22⟩⟩, hab17, hAb17, hBb17, hFb17⟩ := Sl.at_ hsp0_4 hx16
     refine WO.w gN rfl (av_ixn und27 size95 lk lk rfl hab17 hx16) ?_
     have hsa19 : Sl (rInt .i64) wm h a19 c20 x16.places := hFb17.1
     have hsa21 : Sl (rInt .i64) wm h a21 c22 x16.ages := hFb17.2
     refine WO.w gN rfl (av_ldA agg95 size95 (evT fh rfl) (At.fz hS.fz hBb17 hAb17) (j := 0) rfl rfl (ws := [.int .i64 x16.kind, .int .i64 x16.to_, .int .i64 x16.mail.msg, .int .i64 x16.mail.place, .int .i64 x16.mail.from_, .int .i64 x16.mail.age, .int .i64 x16.mail.hops, .slice a19 x16.places.length c20, .slice a21 x16.ages.length c22, .int .i64 x16.place, .int .i64 x16.at_, .int .i64 x16.age]) rfl) ?_
     refine WO.inl gN rfl (Ent.clo (first := []) (cap := [.pointer (some ⟨b1, 0, none⟩), .pointer (some ⟨b3, 0, none⟩)]) lk has106 lks rfl) (WF.begin (args := [_, _, _]) (fn := Tryz.f106) (by kernel_rfl) (by exact rfl) Tryz.ntmps106 (by simp) ?_)
     simp only [frameOf_cons, frameOf_nil, Nat.reduceAdd]
     refine r3 ?_
     rintro _ h24 ⟨b23, eb23, rfl, hS⟩
     refine r12 ?_
     obtain ⟨x25, hx25, hL⟩ := gd_some hL
     refine WO.gcp (GuardIs.yes rfl rfl rfl (fs2 rfl (fskip rfl fh))) rfl (fun hg => (Ent.fn has78 (evs_cons (evG (fskip rfl fh) rfl hg) (evs_cons (evG fh rfl hg) evs_nil)))) (fun hg => f78_ok (hS.slu hsa19) (hx25 hg)) ?_
     refine r4 ?_
     refine r1 ?_
     obtain ⟨x26, hx26, hL⟩ := gd_some hL
     refine WO.gcp (GuardIs.yes rfl rfl rfl (fs2 rfl (fskip rfl fh))) rfl (fun hg => (Ent.fn has78 (evs_cons (evG (fskip rfl fh) rfl hg) (evs_cons (evG fh rfl hg) evs_nil)))) (fun hg => f78_ok (hS.slu hsa19) (hx26 hg)) ?_
     refine r4 ?_
     refine r1 ?_
     refine RetK.gen1 rfl (ares_tmp lk ares_nil) ?_
     refine r2 ?_
     refine cn hL ?_ ?_
     · intro hc hL
       refine r12 ?_
       exact RetK.gen1 rfl (ares_tmp lk ares_nil) ⟨_, hL, ⟨rfl, hS.only (.c k1 (.c k1 .n))⟩⟩
     · intro hc hL
       refine r6 ?_
       refine r1 ?_
       exact LoopK.nrm (hnext15 _ _ hL ⟨_, _, rfl, hS.only (.c k1 (.c k1 .n)), las⟩)
   · intro hc hL
     refine r8 ?_
     refine r3 ?_
     exact RetK.gen1 rfl (ares_tmp lk ares_nil) ⟨_, hL, ⟨rfl, hS.only (.c k0 (.c k0 .n))⟩⟩
theorem f92_ok {F : Nat} {h : H} {p0 : Inspector} {p1 : Int} {p2 : Int} {pa0_0 : Option Addr} {pc0_0 : Nat} {pa0_1 : Option Addr} {pc0_1 : Nat} {pa0_2 : Option Addr} {pc0_2 : Nat} {pa0_3 : Option Addr} {pc0_3 : Nat} {pa0_4 : Option Addr} {pc0_4 : Nat} {pa0_5 : Option Addr} {pc0_5 : Nat} {pb0 : Nat} {po0 : Nat} {r : Bool} (hAp0 : At h pb0 po0 [.slice pa0_0 p0.ferryWorld.in_.length pc0_0, .slice pa0_1 p0.ferryWorld.boxes.length pc0_1, .slice pa0_2 p0.ferryWorld.entries.length pc0_2, .slice pa0_3 p0.ferryWorld.held.length pc0_3, .slice pa0_4 p0.ferryWorld.wire.length pc0_4, .int .i64 p0.ferryWorld.said, .slice pa0_5 p0.spots.length pc0_5]) (hBp0 : Stb h.size h pb0) (hsp0_0 : Sl (rInt .i64) h.size h pa0_0 pc0_0 p0.ferryWorld.in_) (hsp0_1 : Sl (rSl (rInt .i64)) h.size h pa0_1 pc0_1 p0.ferryWorld.boxes) (hsp0_2 : Sl (rSl rFerryEntry) h.size h pa0_2 pc0_2 p0.ferryWorld.entries) (hsp0_3 : Sl (rSl rFerryMail) h.size h pa0_3 pc0_3 p0.ferryWorld.held) (hsp0_4 : Sl rFerryLetter h.size h pa0_4 pc0_4 p0.ferryWorld.wire) (hsp0_5 : Sl rSpot_ h.size h pa0_5 pc0_5 p0.spots) (hL : f92L F p0 p1 p2 = some r) : Pure XX 92 #[.pointer (some ⟨pb0, po0, none⟩), .int .i64 p1, .int .i64 p2] h (.bool r) :=
 WR.pureC rfl (f92_wf (Nat.le_refl _) hAp0 hBp0 hsp0_0 hsp0_1 hsp0_2 hsp0_3 hsp0_4 hsp0_5 hL)
theorem f93_wf {wm : Nat} {h : H} {p0 : Inspector} {p1 : Int} {p2 : Int} {p3 : Int} {pa0_0 : Option Addr} {pc0_0 : Nat} {pa0_1 : Option Addr} {pc0_1 : Nat} {pa0_2 : Option Addr} {pc0_2 : Nat} {pa0_3 : Option Addr} {pc0_3 : Nat} {pa0_4 : Option Addr} {pc0_4 : Nat} {pa0_5 : Option Addr} {pc0_5 : Nat} {pb0 : Nat} {po0 : Nat} {r : Bool} (hwm : wm ≤ h.size) (hAp0 : At h pb0 po0 [.slice pa0_0 p0.ferryWorld.in_.length pc0_0, .slice pa0_1 p0.ferryWorld.boxes.length pc0_1, .slice pa0_2 p0.ferryWorld.entries.length pc0_2, .slice pa0_3 p0.ferryWorld.held.length pc0_3, .slice pa0_4 p0.ferryWorld.wire.length pc0_4, .int .i64 p0.ferryWorld.said, .slice pa0_5 p0.spots.length pc0_5]) (hBp0 : Stb wm h pb0) (hsp0_0 : Sl (rInt .i64) wm h pa0_0 pc0_0 p0.ferryWorld.in_) (hsp0_1 : Sl (rSl (rInt .i64)) wm h pa0_1 pc0_1 p0.ferryWorld.boxes) (hsp0_2 : Sl (rSl rFerryEntry) wm h pa0_2 pc0_2 p0.ferryWorld.entries) (hsp0_3 : Sl (rSl rFerryMail) wm h pa0_3 pc0_3 p0.ferryWorld.held) (hsp0_4 : Sl rFerryLetter wm h pa0_4 pc0_4 p0.ferryWorld.wire) (hsp0_5 : Sl rSpot_ wm h pa0_5 pc0_5 p0.spots) (hL : f93L p0 p1 p2 p3 = some r) :
    WR XX 93 #[.pointer (some ⟨pb0, po0, none⟩), .int .i64 p1, .int .i64 p2, .int .i64 p3] wm h (CP (fun (v : Value) (Gb : List (Ast wm)) => v = .bool r ∧ Gb = []) [] h) := by
 refine bg Tryz.ntmps93 hwm Hold.nil ?_
 intro T hT hS
 unfold f93L at hL
 refine r8 ?_
 refine r2 ?_
 refine WO.w gN rfl (av_ld agg124 (evT fh rfl) (At.fz hS.fz hBp0 hAp0) (j := 6) rfl (v := .slice pa0_5 p0.spots.length pc0_5) rfl) ?_
 refine r1 ?_
 obtain ⟨x1, hx1, hL⟩ := bind_some hL
 obtain ⟨b2, o3, _, hab2, hAb2, hBb2, hFb2⟩ := Sl.at_ hsp0_5 hx1
 refine WO.w gN rfl (av_ixn und124 size120 lk lk rfl hab2 hx1) ?_
 refine WO.w gN rfl (av_ldA agg120 size120 (evT fh rfl) (At.fz hS.fz hBb2 hAb2) (j := 0) rfl rfl (ws := [.int .i64 x1.machine, .bool x1.here, .int .i64 x1.age]) rfl) ?_
 refine r1 ?_
 rintro _ h5 ⟨b4, eb4, rfl, hS⟩
 refine r1 ?_
 rintro h6 hS
 refine r16 ?_
 obtain ⟨x7, hx7, hL⟩ := gd_some hL
 refine WO.gcp (GuardIs.no rfl rfl rfl (fs2 rfl fh)) rfl (fun hg => (Ent.fn has95 (evs_cons (evG (fskip rfl fh) rfl hg) (evs_cons (evG fh rfl hg) evs_nil)))) (fun hg => f95_ok (At.fz hS.fz hBp0 hAp0) (Stb.up hS.hw (Stb.fz hS.fz hAp0 hBp0)) (hS.slu hsp0_0) (hS.slu hsp0_1) (hS.slu hsp0_2) (hS.slu hsp0_3) (hS.slu hsp0_4) (hS.slu hsp0_5) (hx7 hg)) ?_
 refine r4 ?_
 refine cn hL ?_ ?_
 · intro hc hL
   refine r6 ?_
   refine r1 ?_
   exact rt hL hT hS
 · intro hc hL
   refine r8 ?_
   refine r3 ?_
   refine cn hL ?_ ?_
   · intro hc hL
     refine r8 ?_
     refine r3 ?_
     exact rt hL hT hS
   · intro hc hL
     refine r8 ?_
     refine WO.w gN rfl (av_ld agg25 (evT fh rfl) (At.fz hS.fz hBp0 hAp0) (j := 2) rfl (v := .slice pa0_2 p0.ferryWorld.entries.length pc0_2) rfl) ?_
     refine r1 ?_
     obtain ⟨x8, hx8, hL⟩ := bind_some hL
     obtain ⟨b9, o10, ⟨a11, c12⟩, hab9, hAb9, hBb9, hFb9⟩ := Sl.at_ hsp0_2 hx8
     refine WO.w gN rfl (av_ixn und25 size64 lk lk rfl hab9 hx8) ?_
     have hsa11 : Sl rFerryEntry wm h a11 c12 x8 := hFb9
     refine WO.w gN rfl (av_ld agg64 (evT fh rfl) (At.fz hS.fz hBb9 hAb9) (j := 0) rfl (v := .slice a11 x8.length c12) rfl) ?_
     refine r1 ?_
     obtain ⟨x13, hx13, hL⟩ := bind_some hL
     obtain ⟨b14, o15, _, hab14, hAb14, hBb14, hFb14⟩ := Sl.at_ hsa11 hx13
     refine WO.w gN rfl (av_ixn und64 size63 lk lk rfl hab14 hx13) ?_
     refine r1 ?_
     refine WO.w gN rfl (av_ld agg3 (evT fh rfl) (At.fz hS.fz hBb14 hAb14) (j := 2) rfl (v := .int .i64 x13.age) rfl) ?_
     refine r6 ?_
     exact rt hL hT hS
theorem f93_ok {h : H} {p0 : Inspector} {p1 : Int} {p2 : Int} {p3 : Int} {pa0_0 : Option Addr} {pc0_0 : Nat} {pa0_1 : Option Addr} {pc0_1 : Nat} {pa0_2 : Option Addr} {pc0_2 : Nat} {pa0_3 : Option Addr} {pc0_3 : Nat} {pa0_4 : Option Addr} {pc0_4 : Nat} {pa0_5 : Option Addr} {pc0_5 : Nat} {pb0 : Nat} {po0 : Nat} {r : Bool} (hAp0 : At h pb0 po0 [.slice pa0_0 p0.ferryWorld.in_.length pc0_0, .slice pa0_1 p0.ferryWorld.boxes.length pc0_1, .slice pa0_2 p0.ferryWorld.entries.length pc0_2, .slice pa0_3 p0.ferryWorld.held.length pc0_3, .slice pa0_4 p0.ferryWorld.wire.length pc0_4, .int .i64 p0.ferryWorld.said, .slice pa0_5 p0.spots.length pc0_5]) (hBp0 : Stb h.size h pb0) (hsp0_0 : Sl (rInt .i64) h.size h pa0_0 pc0_0 p0.ferryWorld.in_) (hsp0_1 : Sl (rSl (rInt .i64)) h.size h pa0_1 pc0_1 p0.ferryWorld.boxes) (hsp0_2 : Sl (rSl rFerryEntry) h.size h pa0_2 pc0_2 p0.ferryWorld.entries) (hsp0_3 : Sl (rSl rFerryMail) h.size h pa0_3 pc0_3 p0.ferryWorld.held) (hsp0_4 : Sl rFerryLetter h.size h pa0_4 pc0_4 p0.ferryWorld.wire) (hsp0_5 : Sl rSpot_ h.size h pa0_5 pc0_5 p0.spots) (hL : f93L p0 p1 p2 p3 = some r) : Pure XX 93 #[.pointer (some ⟨pb0, po0, none⟩), .int .i64 p1, .int .i64 p2, .int .i64 p3] h (.bool r) :=
 WR.pureC rfl (f93_wf (Nat.le_refl _) hAp0 hBp0 hsp0_0 hsp0_1 hsp0_2 hsp0_3 hsp0_4 hsp0_5 hL)
end Go.Proofs.YtbmbbcaaimehkaaGreat
end
end
section
set_option linter.unusedVariables false
set_option linter.unusedSimpArgs false
namespace Go.Proofs.YtbmbbcaaimehkaaGreat
open Go.Lf
def f21_b3 (p0 : FerryWorld) (v15 : (List Spot)) (v64 : Int) (next66 : (Int → Option Bool)) (x67 : (List FerryEntry)) : Int → (Int → Option Bool) → Option Bool := fun v81 next83 =>
  (bif decide (v81 < (x67.length : Int)) then (geti x67 v81).bind fun x84 => (gd (!x84.here) (geti v15 v81) default).bind fun x90 => (gd (!x84.here) (f53L p0 v81 x90 x84.to_ x84.age) default).bind fun x93 => (bif ((!x84.here) && (!x93)) then some false else next83 (w64 (v81 + 1))) else next66 (w64 (v64 + 1)))
def f21_b5 (p0 : FerryWorld) (v104 : Int) (next106 : ((List Spot) × Int → Option Bool)) (x107 : (List FerryMail)) : (List Spot) × Int → ((List Spot) × Int → Option Bool) → Option Bool := fun (v115, v126) next128 =>
  (bif decide (v126 < (x107.length : Int)) then (geti x107 v126).bind fun x129 => (f54L p0 v115 x129 v104 true).bind fun x135 => (bif (!x135) then some false else next128 (v115, w64 (v126 + 1))) else next106 (v115, w64 (v104 + 1)))
def f21_b7 (p0 : FerryWorld) (x160 : (List Int)) : Int × (List Bool) → (Int × (List Bool) → Option Bool) → Option Bool := fun (v177, v179) next180 =>
  (bif decide (v177 < (x160.length : Int)) then (geti x160 v177).bind fun x181 => (gd (!((decide (x181 < 0)) || (decide (x181 ≥ p0.said)))) (geti v179 x181) default).bind fun x184 => (bif (((decide (x181 < 0)) || (decide (x181 ≥ p0.said))) || x184) then some false else (geti v179 x181).bind fun x187 => next180 (w64 (v177 + 1), seti v179 x181 true)) else some ((x160.length : Int) == p0.said))
def f21_b6 (F : Nat) (p0 : FerryWorld) (v97 : (List Spot)) : Int → (Int → Option Bool) → Option Bool := fun v142 next144 =>
  (bif decide (v142 < (p0.wire.length : Int)) then (geti p0.wire v142).bind fun x145 => (gd (x145.kind == 1) (f54L p0 v97 x145.mail x145.to_ false) default).bind fun x155 => (gd ((!((x145.kind == 1) && (!x155))) && (x145.kind == 3)) (geti v97 x145.place) default).bind fun x156 => (gd ((!((x145.kind == 1) && (!x155))) && (x145.kind == 3)) (f53L p0 x145.place x156 x145.at_ x145.age) default).bind fun x159 => (bif (((x145.kind == 1) && (!x155)) || ((x145.kind == 3) && (!x159))) then some false else next144 (w64 (v142 + 1))) else (f55L F p0).bind fun x160 => (mkL false 1 p0.said p0.said).bind fun z166 => loop F (f21_b7 p0 x160) (0, z166))
def f21_b4 (F : Nat) (p0 : FerryWorld) : (List Spot) × Int → ((List Spot) × Int → Option Bool) → Option Bool := fun (v97, v104) next106 =>
  (bif decide (v104 < (p0.held.length : Int)) then (geti p0.held v104).bind fun x107 => loop F (f21_b5 p0 v104 next106 x107) (v97, 0) else loop F (f21_b6 F p0 v97) 0)
def f21_b2 (F : Nat) (p0 : FerryWorld) (v15 : (List Spot)) : Int → (Int → Option Bool) → Option Bool := fun v64 next66 =>
  (bif decide (v64 < (p0.entries.length : Int)) then (geti p0.entries v64).bind fun x67 => loop F (f21_b3 p0 v15 v64 next66 x67) 0 else loop F (f21_b4 F p0) (v15, 0))
def f21_b1 (F : Nat) (p0 : FerryWorld) (v15 : (List Spot)) : Int → (Int → Option Bool) → Option Bool := fun v34 next36 =>
  (bif decide (v34 < (p0.in_.length : Int)) then (geti p0.in_ v34).bind fun x37 => (gd (decide (x37 ≥ 0)) (geti v15 v34) default).bind fun x40 => (gd (decide (x37 ≥ 0)) (geti v15 x37) default).bind fun x43 => (gd ((decide (x37 ≥ 0)) && (!(x40.is != x43.is))) (geti v15 v34) default).bind fun x46 => (gd ((decide (x37 ≥ 0)) && (!(x40.is != x43.is))) (geti v15 x37) default).bind fun x49 => (gd ((decide (x37 ≥ 0)) && (!((x40.is != x43.is) || (x46.at_ != x49.at_)))) (geti v15 v34) default).bind fun x52 => (gd ((decide (x37 ≥ 0)) && (!((x40.is != x43.is) || (x46.at_ != x49.at_)))) (geti v15 x37) default).bind fun x55 => (bif ((decide (x37 ≥ 0)) && (((x40.is != x43.is) || (x46.at_ != x49.at_)) || (x52.letter != x55.letter))) then some false else next36 (w64 (v34 + 1))) else loop F (f21_b2 F p0 v15) 0)
def f21_b0 (F : Nat) (p0 : FerryWorld) : Int × (List Spot) → (Int × (List Spot) → Option Bool) → Option Bool := fun (v13, v15) next16 =>
  (bif decide (v13 < (p0.in_.length : Int)) then (f52L F p0 v13).bind fun x17 => (bif (!x17.2) then some false else (geti v15 v13).bind fun x23 => next16 (w64 (v13 + 1), seti v15 v13 x17.1)) else loop F (f21_b1 F p0 v15) 0)
def f21L (F : Nat) (p0 : FerryWorld) : Option Bool :=
  (f51L F p0).bind fun x3 => (bif (!x3) then some false else (mkL (Spot.mk 0 0 0 false) 32 (p0.in_.length : Int) (p0.in_.length : Int)).bind fun z4 => loop F (f21_b0 F p0) (0, z4))
def f35L (F : Nat) (p0 : FerryWorld) : Option Bool :=
  (f19L F p0).bind fun x3 => (gd x3 (f21L F p0) default).bind fun x4 => some (x3 && x4)
end Go.Proofs.YtbmbbcaaimehkaaGreat
end
section
set_option linter.unusedVariables false
set_option linter.unusedSimpArgs false
set_option maxRecDepth 20000
noncomputable section
namespace Go.Proofs.YtbmbbcaaimehkaaGreat
open Go.Abs Go.Lf
theorem f21_wf {F : Nat} {wm : Nat} {h : H} {p0 : FerryWorld} {pa0_0 : Option Addr} {pc0_0 : Nat} {pa0_1 : Option Addr} {pc0_1 : Nat} {pa0_2 : Option Addr} {pc0_2 : Nat} {pa0_3 : Option Addr} {pc0_3 : Nat} {pa0_4 : Option Addr} {pc0_4 : Nat} {r : Bool} (hwm : wm ≤ h.size) (hsp0_0 : Sl (rInt .i64) wm h pa0_0 pc0_0 p0.in_) (hsp0_1 : Sl (rSl (rInt .i64)) wm h pa0_1 pc0_1 p0.boxes) (hsp0_2 : Sl (rSl rFerryEntry) wm h pa0_2 pc0_2 p0.entries) (hsp0_3 : Sl (rSl rFerryMail) wm h pa0_3 pc0_3 p0.held) (hsp0_4 : Sl rFerryLetter wm h pa0_4 pc0_4 p0.wire) (hL : f21L F p0 = some r) :
    WR XX 21 #[.agg [.slice pa0_0 p0.in_.length pc0_0, .slice pa0_1 p0.boxes.length pc0_1, .slice pa0_2 p0.entries.length pc0_2, .slice pa0_3 p0.held.length pc0_3, .slice pa0_4 p0.wire.length pc0_4, .int .i64 p0.said].toArray] wm h (CP (fun (v : Value) (Gb : List (Ast wm)) => v = .bool r ∧ Gb = []) [] h) := by
 refine bg Tryz.ntmps21 hwm Hold.nil ?_
 intro T hT hS
 unfold f21L at hL
 refine r3 ?_
 rintro _ h2 ⟨b1, eb1, rfl, hS⟩
 refine r6 ?_
 refine r1 ?_
 obtain ⟨x3, hx3, hL⟩ := bind_some hL
 refine WO.cp gN rfl (Ent.fn has51 (evs_cons lk evs_nil)) (WR.pureC rfl (f51_wf (Nat.le_refl _) (hS.slu hsp0_0) (hS.slu hsp0_1) (hS.slu hsp0_2) (hS.slu hsp0_3) (hS.slu hsp0_4) hx3)) ?_
 refine r3 ?_
 refine cn hL ?_ ?_
 · intro hc hL
   refine r6 ?_
   refine r1 ?_
   exact rt hL hT hS
 · intro hc hL
   refine r6 ?_
   refine r1 ?_
   obtain ⟨z4, hz4, hL⟩ := bind_some hL
   refine WO.hn gN rfl (s_mks (e := rSpot) (x0 := (Spot.mk 0 0 0 false)) () hS und102 size104 (byts104) zero104 rfl rfl (evT fh rfl) (evT fh rfl) rfl trivial hz4) ?_
   rintro _ h6 ⟨b5, c7, eb5, rfl, hS⟩
   refine r12 ?_
   refine r1 ?_
   refine WC.loop (WL.lift hL (fun (p : Int × (List Spot)) (s : Fs) => match p with | (v13, v15) => ∃ (fr9 : Fr) (h8 : H), s = ⟨fr9, [], h8, none⟩ ∧ Sp wm T h [bx wm b1 [.slice pa0_0 p0.in_.length pc0_0, .slice pa0_1 p0.boxes.length pc0_1, .slice pa0_2 p0.entries.length pc0_2, .slice pa0_3 p0.held.length pc0_3, .slice pa0_4 p0.wire.length pc0_4, .int .i64 p0.said], ow wm rSpot (some ⟨b5, 0, none⟩) z4.length c7 v15] h8 ∧ fr9.at 1 = .pointer (some ⟨b1, 0, none⟩) ∧ fr9.at 3 = .slice (some ⟨b5, 0, none⟩) z4.length c7 ∧ fr9.at 32 = .int .i64 (p0.in_.length : Int) ∧ fr9.at 33 = .int .i64 v13) ⟨_, _, rfl, hS.only (.c k1 (.c k0 .n)), las⟩ ?_)
   clear hL hS
   rintro next16 ⟨v13, v15⟩ s hnext16 hL ⟨fr9, h8, rfl, hS, e10, e11, e12, e14⟩
   dsimp only [f21_b0] at hL
   refine r6 ?_
   refine cn hL ?_ ?_
   · intro hc hL
     refine r12 ?_
     refine r2 ?_
     obtain ⟨x17, hx17, hL⟩ := bind_some hL
     refine WO.cl gN rfl (Ent.fn has52 (evs_cons lk (evs_cons lk evs_nil))) hS .n (fun g' hz hf hO => f52_wf (by rw [hz]; exact hS.hw) ((hS.sl hsp0_0).mono hf) ((hS.sl hsp0_1).mono hf) ((hS.sl hsp0_2).mono hf) ((hS.sl hsp0_3).mono hf) ((hS.sl hsp0_4).mono hf) hx17) ?_
     rintro _ h18 _ ⟨rfl, rfl⟩ hS
     refine r4 ?_
     rintro _ h21 ⟨b20, eb20, rfl, hS⟩
     refine r1 ?_
     rintro h22 hS
     refine r8 ?_
     refine r2 ?_
     refine cn hL ?_ ?_
     · intro hc hL
       refine r12 ?_
       exact rt hL hT hS
     · intro hc hL
       refine r6 ?_
       obtain ⟨x23, hx23, hL⟩ := bind_some hL
       obtain ⟨b24, o25, _, hab24, hAb24, hFb24⟩ := Src.at_ (hS.osrc k2) hx23
       refine WO.w gN rfl (av_ixn und102 size104 lk lk (hS.on k2) hab24 hx23) ?_
       refine WO.hu gN (s_ste (e := rSpot) x17.1 () hS k2 size104 (evT fh rfl) (evT (fskip rfl fh) rfl) hab24 hx23 hAb24 (j := 0) rfl (vs := [.int .i64 x17.1.at_, .int .i64 x17.1.age, .int .i64 x17.1.letter, .bool x17.1.is]) rfl rfl rfl rfl rfl (cs' := [.int .i64 x17.1.at_, .int .i64 x17.1.age, .int .i64 x17.1.letter, .bool x17.1.is]) rfl rfl trivial) ?_
       rintro h26 ⟨hS, hA27⟩
       refine r6 ?_
       refine r1 ?_
       exact LoopK.nrm (hnext16 _ _ hL ⟨_, _, rfl, hS.only (.c k2 (.c k0 .n)), las⟩)
   · intro hc hL
     refine r12 ?_
     refine r3 ?_
     refine WC.loop (WL.lift hL (fun (v34 : Int) (s : Fs) => ∃ (fr29 : Fr) (h28 : H), s = ⟨fr29, [], h28, none⟩ ∧ Sp wm T h [bx wm b1 [.slice pa0_0 p0.in_.length pc0_0, .slice pa0_1 p0.boxes.length pc0_1, .slice pa0_2 p0.entries.length pc0_2, .slice pa0_3 p0.held.length pc0_3, .slice pa0_4 p0.wire.length pc0_4, .int .i64 p0.said], ow wm rSpot (some ⟨b5, 0, none⟩) z4.length c7 v15] h28 ∧ fr29.at 1 = .pointer (some ⟨b1, 0, none⟩) ∧ fr29.at 3 = .slice (some ⟨b5, 0, none⟩) z4.length c7 ∧ fr29.at 50 = .slice pa0_0 p0.in_.length pc0_0 ∧ fr29.at 51 = .int .i64 (p0.in_.length : Int) ∧ fr29.at 52 = .int .i64 v34) ⟨_, _, rfl, hS.only (.c k0 (.c k0 .n)), las⟩ ?_)
     clear hL hS
     rintro next36 v34 s hnext36 hL ⟨fr29, h28, rfl, hS, e30, e31, e32, e33, e35⟩
     dsimp only [f21_b1] at hL
     refine r6 ?_
     refine cn hL ?_ ?_
     · intro hc hL
       refine r6 ?_
       refine r1 ?_
       obtain ⟨x37, hx37, hL⟩ := bind_some hL
       obtain ⟨b38, o39, _, hab38, hAb38, hBb38, hFb38⟩ := Sl.at_ hsp0_0 hx37
       refine WO.w gN rfl (av_ixn und22 size3 lk lk rfl hab38 hx37) ?_
       refine WO.w gN rfl (av_ld agg3 (evT fh rfl) (At.fz hS.fz hBb38 hAb38) (j := 0) rfl (v := .int .i64 x37) rfl) ?_
       refine r4 ?_
       refine r1 ?_
       refine WC.drawX mixed (by kernel_rfl) ?_
       refine r4 ?_
       refine r1 ?_
       obtain ⟨x40, hx40, hL⟩ := gd_some hL
       obtain ⟨b41, o42, _, hQ⟩ := Src.atG (fun hg => (hS.osrc k1)) hx40
       have hab41 := fun hg => (hQ hg).1
       have hAb41 := fun hg => (hQ hg).2.1
       have hFb41 := fun hg => (hQ hg).2.2
       refine WX.gv (GuardIs.yes rfl rfl rfl (fs2 rfl fh)) rfl (fun hg => (av_ixn und102 size104 (evG (fskip rfl fh) rfl hg) (evG fh rfl hg) (hS.on k1) (hab41 hg) (hx40 hg))) ?_ rfl
       refine r1 ?_
       refine WX.gv (GuardIs.yes rfl rfl rfl (fs4 rfl fh)) rfl (fun hg => (av_ld agg4 (evG fh rfl hg) (hAb41 hg) (j := 3) rfl (v := .bool x40.is) rfl)) ?_ rfl
       refine r2 ?_
       obtain ⟨x43, hx43, hL⟩ := gd_some hL
       obtain ⟨b44, o45, _, hQ⟩ := Src.atG (fun hg => (hS.osrc k1)) hx43
       have hab44 := fun hg => (hQ hg).1
       have hAb44 := fun hg => (hQ hg).2.1
       have hFb44 := fun hg => (hQ hg).2.2
       refine WX.gv (GuardIs.yes rfl rfl rfl (fs4 rfl (fs2 rfl (fskip rfl fh)))) rfl (fun hg => (av_ixn und102 size104 (evG (fskip rfl fh) rfl hg) (evG fh rfl hg) (hS.on k1) (hab44 hg) (hx43 hg))) ?_ rfl
       refine r1 ?_
       refine WX.gv (GuardIs.yes rfl rfl rfl (fs8 rfl (fskip rfl fh))) rfl (fun hg => (av_ld agg4 (evG fh rfl hg) (hAb44 hg) (j := 3) rfl (v := .bool x43.is) rfl)) ?_ rfl
       refine WX.gv (GuardIs.yes rfl rfl rfl (fs8 rfl (fs2 rfl fh))) rfl (fun hg => (av_bin (evG (fs4 rfl (fskip rfl fh)) rfl hg) (evG fh rfl hg) (abin_neqB und4))) ?_ rfl
       refine r3 ?_
       obtain ⟨x46, hx46, hL⟩ := gd_some hL
       obtain ⟨b47, o48, _, hQ⟩ := Src.atG (fun hg => (hS.osrc k1)) hx46
       have hab47 := fun hg => (hQ hg).1
       have hAb47 := fun hg => (hQ hg).2.1
       have hFb47 := fun hg => (hQ hg).2.2
       refine WX.gv (GuardIs.no2 rfl rfl rfl (fs2 rfl fh)) rfl (fun hg => (av_ixn und102 size104 (evG (fskip rfl fh) rfl hg) (evG fh rfl hg) (hS.on k1) (hab47 hg) (hx46 hg))) ?_ rfl
       refine r1 ?_
       refine WX.gv (GuardIs.no2 rfl rfl rfl (fs4 rfl fh)) rfl (fun hg => (av_ld agg3 (evG fh rfl hg) (hAb47 hg) (j := 0) rfl (v := .int .i64 x46.at_) rfl)) ?_ rfl
       refine r2 ?_
       obtain ⟨x49, hx49, hL⟩ := gd_some hL
       obtain ⟨b50, o51, _, hQ⟩ := Src.atG (fun hg => (hS.osrc k1)) hx49
       have hab50 := fun hg => (hQ hg).1
       have hAb50 := fun hg => (hQ hg).2.1
       have hFb50 := fun hg => (hQ hg).2.2
       refine WX.gv (GuardIs.no2 rfl rfl rfl (fs4 rfl (fs2 rfl (fskip rfl fh)))) rfl (fun hg => (av_ixn und102 size104 (evG (fskip rfl fh) rfl hg) (evG fh rfl hg) (hS.on k1) (hab50 hg) (hx49 hg))) ?_ rfl
       refine r1 ?_
       refine WX.gv (GuardIs.no2 rfl rfl rfl (fs8 rfl (fskip rfl fh))) rfl (fun hg => (av_ld agg3 (evG fh rfl hg) (hAb50 hg) (j := 0) rfl (v := .int .i64 x49.at_) rfl)) ?_ rfl
       refine r1 ?_
       refine WX.gv (GuardIs.yes rfl rfl rfl (fs8 rfl (fs8 rfl (fs4 rfl (fs2 rfl (fskip rfl fh)))))) rfl (fun hg => (av_or (evG (fs8 rfl (fs2 rfl (fskip rfl fh))) rfl hg) lk (evGU2 fh hg))) ?_ rfl
       refine r3 ?_
       obtain ⟨x52, hx52, hL⟩ := gd_some hL
       obtain ⟨b53, o54, _, hQ⟩ := Src.atG (fun hg => (hS.osrc k1)) hx52
       have hab53 := fun hg => (hQ hg).1
       have hAb53 := fun hg => (hQ hg).2.1
       have hFb53 := fun hg => (hQ hg).2.2
       refine WX.gv (GuardIs.no2 rfl rfl rfl (fs2 rfl fh)) rfl (fun hg => (av_ixn und102 size104 (evG (fskip rfl fh) rfl hg) (evG fh rfl hg) (hS.on k1) (hab53 hg) (hx52 hg))) ?_ rfl
       refine r1 ?_
       refine WX.gv (GuardIs.no2 rfl rfl rfl (fs4 rfl fh)) rfl (fun hg => (av_ld agg3 (evG fh rfl hg) (hAb53 hg) (j := 2) rfl (v := .int .i64 x52.letter) rfl)) ?_ rfl
       refine r2 ?_
       obtain ⟨x55, hx55, hL⟩ := gd_some hL
       obtain ⟨b56, o57, _, hQ⟩ := Src.atG (fun hg => (hS.osrc k1)) hx55
       have hab56 := fun hg => (hQ hg).1
       have hAb56 := fun hg => (hQ hg).2.1
       have hFb56 := fun hg => (hQ hg).2.2
       refine WX.gv (GuardIs.no2 rfl rfl rfl (fs4 rfl (fs2 rfl (fskip rfl fh)))) rfl (fun hg => (av_ixn und102 size104 (evG (fskip rfl fh) rfl hg) (evG fh rfl hg) (hS.on k1) (hab56 hg) (hx55 hg))) ?_ rfl
       refine r1 ?_
       refine WX.gv (GuardIs.no2 rfl rfl rfl (fs8 rfl (fskip rfl fh))) rfl (fun hg => (av_ld agg3 (evG fh rfl hg) (hAb56 hg) (j := 2) rfl (v := .int .i64 x55.letter) rfl)) ?_ rfl
       refine r1 ?_
       refine WX.gv (GuardIs.yes rfl rfl rfl (fs8 rfl (fs8 rfl (fs8 rfl (fs8 rfl (fs4 rfl fh)))))) rfl (fun hg => (av_or (evG (fs8 rfl (fs2 rfl (fskip rfl fh))) rfl hg) lk (evGU2 fh hg))) ?_ rfl
       refine r3 ?_
       refine cn hL ?_ ?_
       · intro hc hL
         refine r8 ?_
         refine r3 ?_
         exact rt hL hT hS
       · intro hc hL
         refine r6 ?_
         refine r1 ?_
         exact LoopK.nrm (hnext36 _ _ hL ⟨_, _, rfl, hS.only (.c k0 (.c k0 .n)), las⟩)
     · intro hc hL
       refine r12 ?_
       refine r3 ?_
       refine WC.loop (WL.lift hL (fun (v64 : Int) (s : Fs) => ∃ (fr59 : Fr) (h58 : H), s = ⟨fr59, [], h58, none⟩ ∧ Sp wm T h [bx wm b1 [.slice pa0_0 p0.in_.length pc0_0, .slice pa0_1 p0.boxes.length pc0_1, .slice pa0_2 p0.entries.length pc0_2, .slice pa0_3 p0.held.length pc0_3, .slice pa0_4 p0.wire.length pc0_4, .int .i64 p0.said], ow wm rSpot (some ⟨b5, 0, none⟩) z4.length c7 v15] h58 ∧ fr59.at 1 = .pointer (some ⟨b1, 0, none⟩) ∧ fr59.at 3 = .slice (some ⟨b5, 0, none⟩) z4.length c7 ∧ fr59.at 100 = .slice pa0_2 p0.entries.length pc0_2 ∧ fr59.at 101 = .int .i64 (p0.entries.length : Int) ∧ fr59.at 102 = .int .i64 v64) ⟨_, _, rfl, hS.only (.c k0 (.c k0 .n)), las⟩ ?_)
       clear hL hS
       rintro next66 v64 s hnext66 hL ⟨fr59, h58, rfl, hS, e60, e61, e62, e63, e65⟩
       dsimp only [f21_b2] at hL
       refine r6 ?_
       refine cn hL ?_ ?_
       · intro hc hL
         refine r6 ?_
         obtain ⟨x67, hx67, hL⟩ := bind_some hL
         obtain ⟨b68, o69, ⟨a70, c71⟩, hab68, hAb68, hBb68, hFb68⟩ := Sl.at_ hsp0_2 hx67
         refine WO.w gN rfl (av_ixn und25 size64 lk lk rfl hab68 hx67) ?_
         have hsa70 : Sl rFerryEntry wm h a70 c71 x67 := hFb68
         refine WO.w gN rfl (av_ld agg64 (evT fh rfl) (At.fz hS.fz hBb68 hAb68) (j := 0) rfl (v := .slice a70 x67.length c71) rfl) ?_
         refine r8 ?_
         refine r3 ?_
         refine WC.loop (WL.lift hL (fun (v81 : Int) (s : Fs) => ∃ (fr73 : Fr) (h72 : H), s = ⟨fr73, [], h72, none⟩ ∧ Sp wm T h [bx wm b1 [.slice pa0_0 p0.in_.length pc0_0, .slice pa0_1 p0.boxes.length pc0_1, .slice pa0_2 p0.entries.length pc0_2, .slice pa0_3 p0.held.length pc0_3, .slice pa0_4 p0.wire.length pc0_4, .int .i64 p0.said], ow wm rSpot (some ⟨b5, 0, none⟩) z4.length c7 v15] h72 ∧ fr73.at 1 = .pointer (some ⟨b1, 0, none⟩) ∧ fr73.at 3 = .slice (some ⟨b5, 0, none⟩) z4.length c7 ∧ fr73.at 100 = .slice pa0_2 p0.entries.length pc0_2 ∧ fr73.at 101 = .int .i64 (p0.entries.length : Int) ∧ fr73.at 102 = .int .i64 v64 ∧ fr73.at 106 = .slice a70 x67.length c71 ∧ fr73.at 107 = .int .i64 (x67.length : Int) ∧ fr73.at 108 = .int .i64 v81) ⟨_, _, rfl, hS.only (.c k0 (.c k0 .n)), las⟩ ?_)
         clear hL hS
         rintro next83 v81 s hnext83 hL ⟨fr73, h72, rfl, hS, e74, e75, e76, e77, e78, e79, e80, e82⟩
         dsimp only [f21_b3] at hL
         refine r6 ?_
         refine cn hL ?_ ?_
         · intro hc hL
           refine r6 ?_
           refine r1 ?_
           obtain ⟨x84, hx84, hL⟩ := bind_some hL
           obtain ⟨b85, o86, _, hab85, hAb85, hBb85, hFb85⟩ := Sl.at_ hsa70 hx84
           refine WO.w gN rfl (av_ixn und64 size63 lk lk rfl hab85 hx84) ?_
           refine WO.w gN rfl (av_ldA agg63 size63 (evT fh rfl) (At.fz hS.fz hBb85 hAb85) (j := 0) rfl rfl (ws := [.bool x84.here, .int .i64 x84.to_, .int .i64 x84.age]) rfl) ?_
           refine r1 ?_
           rintro _ h88 ⟨b87, eb87, rfl, hS⟩
           refine r2 ?_
           rintro h89 hS
           refine r3 ?_
           refine WC.drawX mixed (by kernel_rfl) ?_
           refine r8 ?_
           obtain ⟨x90, hx90, hL⟩ := gd_some hL
           obtain ⟨b91, o92, _, hQ⟩ := Src.atG (fun hg => (hS.osrc k2)) hx90
           have hab91 := fun hg => (hQ hg).1
           have hAb91 := fun hg => (hQ hg).2.1
           have hFb91 := fun hg => (hQ hg).2.2
           refine WX.gv (GuardIs.yes rfl rfl rfl (fs4 rfl fh)) rfl (fun hg => (av_ixn und102 size104 (evG (fskip rfl fh) rfl hg) (evG fh rfl hg) (hS.on k2) (hab91 hg) (hx90 hg))) ?_ rfl
           refine WX.gv (GuardIs.yes rfl rfl rfl (fs4 rfl (fskip rfl fh))) rfl (fun hg => (av_ldA agg104 size104 (evG fh rfl hg) (hAb91 hg) (j := 0) rfl rfl (ws := [.int .i64 x90.at_, .int .i64 x90.age, .int .i64 x90.letter, .bool x90.is]) rfl)) ?_ rfl
           refine r4 ?_
           obtain ⟨x93, hx93, hL⟩ := gd_some hL
           refine WX.gcp (GuardIs.yes rfl rfl rfl (fs8 rfl (fs2 rfl fh))) rfl (fun hg => (Ent.fn has53 (evs_cons (evG (fs8 rfl (fskip rfl fh)) rfl hg) (evs_cons (evG (fs8 rfl fh) rfl hg) (evs_cons (evG (fs4 rfl fh) rfl hg) (evs_cons (evG (fs2 rfl fh) rfl hg) (evs_cons (evG fh rfl hg) evs_nil))))))) (fun hg => f53_ok (hS.slu hsp0_0) (hS.slu hsp0_1) (hS.slu hsp0_2) (hS.slu hsp0_3) (hS.slu hsp0_4) (hx93 hg)) ?_ rfl rfl
           refine r4 ?_
           refine cn hL ?_ ?_
           · intro hc hL
             refine r12 ?_
             refine r3 ?_
             exact rt hL hT hS
           · intro hc hL
             refine r6 ?_
             refine r1 ?_
             exact LoopK.nrm (hnext83 _ _ hL ⟨_, _, rfl, hS.only (.c k1 (.c k1 .n)), las⟩)
         · intro hc hL
           refine r8 ?_
           refine r2 ?_
           exact LoopK.nrm (hnext66 _ _ hL ⟨_, _, rfl, hS.only (.c k0 (.c k0 .n)), las⟩)
       · intro hc hL
         refine r12 ?_
         refine r3 ?_
         refine WC.loop (WL.lift hL (fun (p : (List Spot) × Int) (s : Fs) => match p with | (v97, v104) => ∃ (fr95 : Fr) (h94 : H) (a98 : Option Addr) (c99 : Nat) (n100 : Nat), s = ⟨fr95, [], h94, none⟩ ∧ Sp wm T h [ow wm rSpot a98 n100 c99 v97, bx wm b1 [.slice pa0_0 p0.in_.length pc0_0, .slice pa0_1 p0.boxes.length pc0_1, .slice pa0_2 p0.entries.length pc0_2, .slice pa0_3 p0.held.length pc0_3, .slice pa0_4 p0.wire.length pc0_4, .int .i64 p0.said]] h94 ∧ fr95.at 1 = .pointer (some ⟨b1, 0, none⟩) ∧ fr95.at 3 = .slice a98 n100 c99 ∧ fr95.at 133 = .slice pa0_3 p0.held.length pc0_3 ∧ fr95.at 134 = .int .i64 (p0.held.length : Int) ∧ fr95.at 135 = .int .i64 v104) ⟨_, _, (some ⟨b5, 0, none⟩), c7, z4.length, rfl, hS.only (.c k1 (.c k0 .n)), las⟩ ?_)
         clear hL hS
         rintro next106 ⟨v97, v104⟩ s hnext106 hL ⟨fr95, h94, a98, c99, n100, rfl, hS, e96, e101, e102, e103, e105⟩
         obtain rfl := hS.on k0
         dsimp only [f21_b4] at hL
         refine r6 ?_
         refine cn hL ?_ ?_
         · intro hc hL
           refine r6 ?_
           refine r1 ?_
           obtain ⟨x107, hx107, hL⟩ := bind_some hL
           obtain ⟨b108, o109, ⟨a110, c111⟩, hab108, hAb108, hBb108, hFb108⟩ := Sl.at_ hsp0_3 hx107
           refine WO.w gN rfl (av_ixn und26 size90 lk lk rfl hab108 hx107) ?_
           have hsa110 : Sl rFerryMail wm h a110 c111 x107 := hFb108
           refine WO.w gN rfl (av_ld agg90 (evT fh rfl) (At.fz hS.fz hBb108 hAb108) (j := 0) rfl (v := .slice a110 x107.length c111) rfl) ?_
           refine r12 ?_
           refine WC.loop (WL.lift hL (fun (p : (List Spot) × Int) (s : Fs) => match p with | (v115, v126) => ∃ (fr113 : Fr) (h112 : H) (a116 : Option Addr) (c117 : Nat) (n118 : Nat), s = ⟨fr113, [], h112, none⟩ ∧ Sp wm T h [ow wm rSpot a116 n118 c117 v115, bx wm b1 [.slice pa0_0 p0.in_.length pc0_0, .slice pa0_1 p0.boxes.length pc0_1, .slice pa0_2 p0.entries.length pc0_2, .slice pa0_3 p0.held.length pc0_3, .slice pa0_4 p0.wire.length pc0_4, .int .i64 p0.said]] h112 ∧ fr113.at 1 = .pointer (some ⟨b1, 0, none⟩) ∧ fr113.at 3 = .slice a116 n118 c117 ∧ fr113.at 13 = .int .i64 v104 ∧ fr113.at 133 = .slice pa0_3 p0.held.length pc0_3 ∧ fr113.at 134 = .int .i64 (p0.held.length : Int) ∧ fr113.at 135 = .int .i64 v104 ∧ fr113.at 140 = .slice a110 x107.length c111 ∧ fr113.at 141 = .int .i64 (x107.length : Int) ∧ fr113.at 142 = .int .i64 v126) ⟨_, _, a98, c99, v97.length, rfl, hS.only (.c k0 (.c k0 .n)), las⟩ ?_)
           clear hL hS
           rintro next128 ⟨v115, v126⟩ s hnext128 hL ⟨fr113, h112, a116, c117, n118, rfl, hS, e114, e119, e120, e121, e122, e123, e124, e125, e127⟩
           obtain rfl := hS.on k0
           dsimp only [f21_b5] at hL
           refine r6 ?_
           refine cn hL ?_ ?_
           · intro hc hL
             refine r6 ?_
             obtain ⟨x129, hx129, hL⟩ := bind_some hL
             obtain ⟨b130, o131, _, hab130, hAb130, hBb130, hFb130⟩ := Sl.at_ hsa110 hx129
             refine WO.w gN rfl (av_ixn und90 size92 lk lk rfl hab130 hx129) ?_
             refine WO.w gN rfl (av_ldA agg92 size92 (evT fh rfl) (At.fz hS.fz hBb130 hAb130) (j := 0) rfl rfl (ws := [.int .i64 x129.msg, .int .i64 x129.place, .int .i64 x129.from_, .int .i64 x129.age, .int .i64 x129.hops]) rfl) ?_
             refine r1 ?_
             rintro _ h133 ⟨b132, eb132, rfl, hS⟩
             refine r1 ?_
             rintro h134 hS
             refine r8 ?_
             obtain ⟨x135, hx135, hL⟩ := bind_some hL
             refine WO.cp gN rfl (Ent.fn has54 (evs_cons lk (evs_cons lk (evs_cons lk (evs_cons lk (evs_cons lk evs_nil)))))) (f54_ok (hS.slu hsp0_0) (hS.slu hsp0_1) (hS.slu hsp0_2) (hS.slu hsp0_3) (hS.slu hsp0_4) (hS.ord k1) hx135) ?_
             refine r3 ?_
             refine cn hL ?_ ?_
             · intro hc hL
               refine r12 ?_
               refine r3 ?_
               exact rt hL hT hS
             · intro hc hL
               refine r6 ?_
               refine r1 ?_
               exact LoopK.nrm (hnext128 _ _ hL ⟨_, _, a116, c117, v115.length, rfl, hS.only (.c k1 (.c k1 .n)), las⟩)
           · intro hc hL
             refine r8 ?_
             refine r2 ?_
             exact LoopK.nrm (hnext106 _ _ hL ⟨_, _, a116, c117, v115.length, rfl, hS.only (.c k0 (.c k0 .n)), las⟩)
         · intro hc hL
           refine r12 ?_
           refine r3 ?_
           refine WC.loop (WL.lift hL (fun (v142 : Int) (s : Fs) => ∃ (fr137 : Fr) (h136 : H), s = ⟨fr137, [], h136, none⟩ ∧ Sp wm T h [bx wm b1 [.slice pa0_0 p0.in_.length pc0_0, .slice pa0_1 p0.boxes.length pc0_1, .slice pa0_2 p0.entries.length pc0_2, .slice pa0_3 p0.held.length pc0_3, .slice pa0_4 p0.wire.length pc0_4, .int .i64 p0.said], ow wm rSpot a98 v97.length c99 v97] h136 ∧ fr137.at 1 = .pointer (some ⟨b1, 0, none⟩) ∧ fr137.at 3 = .slice a98 v97.length c99 ∧ fr137.at 155 = .slice pa0_4 p0.wire.length pc0_4 ∧ fr137.at 156 = .int .i64 (p0.wire.length : Int) ∧ fr137.at 157 = .int .i64 v142) ⟨_, _, rfl, hS.only (.c k1 (.c k0 .n)), las⟩ ?_)
           clear hL hS
           rintro next144 v142 s hnext144 hL ⟨fr137, h136, rfl, hS, e138, e139, e140, e141, e143⟩
           dsimp only [f21_b6] at hL
           refine r6 ?_
           refine cn hL ?_ ?_
           · intro hc hL
             refine r6 ?_
             obtain ⟨x145, hx145, hL⟩ := bind_some hL
             obtain ⟨b146, o147, ⟨⟨a148, c149⟩, ⟨a150, c151⟩⟩, hab146, hAb146, hBb146, hFb146⟩ := Sl.at_ hsp0_4 hx145
             refine WO.w gN rfl (av_ixn und27 size95 lk lk rfl hab146 hx145) ?_
             have hsa148 : Sl (rInt .i64) wm h a148 c149 x145.places := hFb146.1
             have hsa150 : Sl (rInt .i64) wm h a150 c151 x145.ages := hFb146.2
             refine WO.w gN rfl (av_ldA agg95 size95 (evT fh rfl) (At.fz hS.fz hBb146 hAb146) (j := 0) rfl rfl (ws := [.int .i64 x145.kind, .int .i64 x145.to_, .int .i64 x145.mail.msg, .int .i64 x145.mail.place, .int .i64 x145.mail.from_, .int .i64 x145.mail.age, .int .i64 x145.mail.hops, .slice a148 x145.places.length c149, .slice a150 x145.ages.length c151, .int .i64 x145.place, .int .i64 x145.at_, .int .i64 x145.age]) rfl) ?_
             refine r1 ?_
             rintro _ h153 ⟨b152, eb152, rfl, hS⟩
             refine r1 ?_
             rintro h154 hS
             refine r3 ?_
             refine WC.drawX mixed (by kernel_rfl) ?_
             refine r8 ?_
             refine r2 ?_
             obtain ⟨x155, hx155, hL⟩ := gd_some hL
             refine WX.gcp (GuardIs.yes rfl rfl rfl (fs4 rfl (fs2 rfl fh))) rfl (fun hg => (Ent.fn has54 (evs_cons (evG (fs4 rfl (fskip rfl fh)) rfl hg) (evs_cons (evG (fs4 rfl fh) rfl hg) (evs_cons (evG (fs2 rfl fh) rfl hg) (evs_cons (evG fh rfl hg) (evs_cons lk evs_nil))))))) (fun hg => f54_ok (hS.slu hsp0_0) (hS.slu hsp0_1) (hS.slu hsp0_2) (hS.slu hsp0_3) (hS.slu hsp0_4) (hS.ord k2) (hx155 hg)) ?_ rfl rfl
             refine r12 ?_
             refine r1 ?_
             obtain ⟨x156, hx156, hL⟩ := gd_some hL
             obtain ⟨b157, o158, _, hQ⟩ := Src.atG (fun hg => (hS.osrc k2)) hx156
             have hab157 := fun hg => (hQ hg).1
             have hAb157 := fun hg => (hQ hg).2.1
             have hFb157 := fun hg => (hQ hg).2.2
             refine WX.gv (GuardIs.yes2 rfl rfl rfl (fs4 rfl (fs2 rfl fh))) rfl (fun hg => (av_ixn und102 size104 (evG (fs2 rfl fh) rfl hg) (evG fh rfl hg) rfl (hab157 hg) (hx156 hg))) ?_ rfl
             refine WX.gv (GuardIs.yes2 rfl rfl rfl (fs4 rfl (fs2 rfl (fskip rfl fh)))) rfl (fun hg => (av_ldA agg104 size104 (evG fh rfl hg) (hAb157 hg) (j := 0) rfl rfl (ws := [.int .i64 x156.at_, .int .i64 x156.age, .int .i64 x156.letter, .bool x156.is]) rfl)) ?_ rfl
             refine r4 ?_
             obtain ⟨x159, hx159, hL⟩ := gd_some hL
             refine WX.gcp (GuardIs.yes2 rfl rfl rfl (fs8 rfl (fs4 rfl fh))) rfl (fun hg => (Ent.fn has53 (evs_cons (evG (fs8 rfl (fs2 rfl (fskip rfl fh))) rfl hg) (evs_cons (evG (fs8 rfl (fskip rfl fh)) rfl hg) (evs_cons (evG (fs4 rfl fh) rfl hg) (evs_cons (evG (fs2 rfl fh) rfl hg) (evs_cons (evG fh rfl hg) evs_nil))))))) (fun hg => f53_ok (hS.slu hsp0_0) (hS.slu hsp0_1) (hS.slu hsp0_2) (hS.slu hsp0_3) (hS.slu hsp0_4) (hx159 hg)) ?_ rfl rfl
             refine r1 ?_
             refine WX.gv (GuardIs.no rfl rfl rfl (fs8 rfl (fs8 rfl (fs2 rfl fh)))) rfl (fun hg => (av_and (evG (fs8 rfl (fs4 rfl (fs2 rfl fh))) rfl hg) (evGU2 fh hg) lk)) ?_ rfl
             refine r3 ?_
             refine cn hL ?_ ?_
             · intro hc hL
               refine r8 ?_
               refine r3 ?_
               exact rt hL hT hS
             · intro hc hL
               refine r6 ?_
               refine r1 ?_
               exact LoopK.nrm (hnext144 _ _ hL ⟨_, _, rfl, hS.only (.c k1 (.c k1 .n)), las⟩)
           · intro hc hL
             refine r8 ?_
             obtain ⟨x160, hx160, hL⟩ := bind_some hL
             refine WO.cl gN rfl (Ent.fn has55 (evs_cons lk evs_nil)) hS .n (fun g' hz hf hO => f55_wf (by rw [hz]; exact hS.hw) ((hS.sl hsp0_0).mono hf) ((hS.sl hsp0_1).mono hf) ((hS.sl hsp0_2).mono hf) ((hS.sl hsp0_3).mono hf) ((hS.sl hsp0_4).mono hf) hx160) ?_
             rintro _ h164 _ ⟨a161, n162, c163, rfl, rfl⟩ hS
             obtain rfl := hS.on k0
             refine r6 ?_
             refine r1 ?_
             obtain ⟨z166, hz166, hL⟩ := bind_some hL
             refine WO.hn gN rfl (s_mks (e := rBool) (x0 := false) () hS und110 size4 (byts4) zero4 rfl rfl (evT fh rfl) (evT fh rfl) rfl trivial hz166) ?_
             rintro _ h168 ⟨b167, c169, eb167, rfl, hS⟩
             refine r12 ?_
             refine WC.loop (WL.lift hL (fun (p : Int × (List Bool)) (s : Fs) => match p with | (v177, v179) => ∃ (fr171 : Fr) (h170 : H), s = ⟨fr171, [], h170, none⟩ ∧ Sp wm T h [bx wm b1 [.slice pa0_0 p0.in_.length pc0_0, .slice pa0_1 p0.boxes.length pc0_1, .slice pa0_2 p0.entries.length pc0_2, .slice pa0_3 p0.held.length pc0_3, .slice pa0_4 p0.wire.length pc0_4, .int .i64 p0.said], ow wm (rInt .i64) a161 x160.length c163 x160, ow wm rBool (some ⟨b167, 0, none⟩) z166.length c169 v179] h170 ∧ fr171.at 1 = .pointer (some ⟨b1, 0, none⟩) ∧ fr171.at 19 = .slice a161 x160.length c163 ∧ fr171.at 20 = .slice (some ⟨b167, 0, none⟩) z166.length c169 ∧ fr171.at 201 = .slice a161 x160.length c163 ∧ fr171.at 202 = .int .i64 (x160.length : Int) ∧ fr171.at 203 = .int .i64 v177) ⟨_, _, rfl, hS.only (.c k2 (.c k1 (.c k0 .n))), las⟩ ?_)
             clear hL hS
             rintro next180 ⟨v177, v179⟩ s hnext180 hL ⟨fr171, h170, rfl, hS, e172, e173, e174, e175, e176, e178⟩
             dsimp only [f21_b7] at hL
             refine r6 ?_
             refine cn hL ?_ ?_
             · intro hc hL
               refine r6 ?_
               obtain ⟨x181, hx181, hL⟩ := bind_some hL
               obtain ⟨b182, o183, _, hab182, hAb182, hFb182⟩ := Src.at_ (hS.osrc k1) hx181
               refine WO.w gN rfl (av_ixn und22 size3 lk lk rfl hab182 hx181) ?_
               refine WO.w gN rfl (av_ld agg3 (evT fh rfl) hAb182 (j := 0) rfl (v := .int .i64 x181) rfl) ?_
               refine r16 ?_
               refine r1 ?_
               obtain ⟨x184, hx184, hL⟩ := gd_some hL
               obtain ⟨b185, o186, _, hQ⟩ := Src.atG (fun hg => (hS.osrc k2)) hx184
               have hab185 := fun hg => (hQ hg).1
               have hAb185 := fun hg => (hQ hg).2.1
               have hFb185 := fun hg => (hQ hg).2.2
               refine WO.gv (GuardIs.no rfl rfl rfl (fs2 rfl fh)) rfl (fun hg => (av_ixn und110 size4 (evG (fskip rfl fh) rfl hg) (evG fh rfl hg) (hS.on k2) (hab185 hg) (hx184 hg))) ?_
               refine WO.gv (GuardIs.no rfl rfl rfl (fs2 rfl (fskip rfl fh))) rfl (fun hg => (av_ld agg4 (evG fh rfl hg) (hAb185 hg) (j := 0) rfl (v := .bool x184) rfl)) ?_
               refine r3 ?_
               refine cn hL ?_ ?_
               · intro hc hL
                 refine r12 ?_
                 exact rt hL hT hS
               · intro hc hL
                 refine r4 ?_
                 refine r1 ?_
                 obtain ⟨x187, hx187, hL⟩ := bind_some hL
                 obtain ⟨b188, o189, _, hab188, hAb188, hFb188⟩ := Src.at_ (hS.osrc k2) hx187
                 refine WO.w gN rfl (av_ixn und110 size4 lk lk (hS.on k2) hab188 hx187) ?_
                 refine WO.hu gN (s_ste (e := rBool) true () hS k2 size4 (evT fh rfl) (evC rfl) hab188 hx187 hAb188 (j := 0) rfl (vs := [.bool true]) rfl rfl rfl rfl rfl (cs' := [.bool true]) rfl rfl trivial) ?_
                 rintro h190 ⟨hS, hA191⟩
                 refine r6 ?_
                 refine r1 ?_
                 exact LoopK.nrm (hnext180 _ _ hL ⟨_, _, rfl, hS.only (.c k1 (.c k1 (.c k0 .n))), las⟩)
             · intro hc hL
               refine r16 ?_
               exact rt hL hT hS
theorem f21_ok {F : Nat} {h : H} {p0 : FerryWorld} {pa0_0 : Option Addr} {pc0_0 : Nat} {pa0_1 : Option Addr} {pc0_1 : Nat} {pa0_2 : Option Addr} {pc0_2 : Nat} {pa0_3 : Option Addr} {pc0_3 : Nat} {pa0_4 : Option Addr} {pc0_4 : Nat} {r : Bool} (hsp0_0 : Sl (rInt .i64) h.size h pa0_0 pc0_0 p0.in_) (hsp0_1 : Sl (rSl (rInt .i64)) h.size h pa0_1 pc0_1 p0.boxes) (hsp0_2 : Sl (rSl rFerryEntry) h.size h pa0_2 pc0_2 p0.entries) (hsp0_3 : Sl (rSl rFerryMail) h.size h pa0_3 pc0_3 p0.held) (hsp0_4 : Sl rFerryLetter h.size h pa0_4 pc0_4 p0.wire) (hL : f21L F p0 = some r) : Pure XX 21 #[.agg [.slice pa0_0 p0.in_.length pc0_0, .slice pa0_1 p0.boxes.length pc0_1, .slice pa0_2 p0.entries.length pc0_2, .slice pa0_3 p0.held.length pc0_3, .slice pa0_4 p0.wire.length pc0_4, .int .i64 p0.said].toArray] h (.bool r) :=
 WR.pureC rfl (f21_wf (Nat.le_refl _) hsp0_0 hsp0_1 hsp0_2 hsp0_3 hsp0_4 hL)
theorem f35_wf {F : Nat} {wm : Nat} {h : H} {p0 : FerryWorld} {pa0_0 : Option Addr} {pc0_0 : Nat} {pa0_1 : Option Addr} {pc0_1 : Nat} {pa0_2 : Option Addr} {pc0_2 : Nat} {pa0_3 : Option Addr} {pc0_3 : Nat} {pa0_4 : Option Addr} {pc0_4 : Nat} {r : Bool} (hwm : wm ≤ h.size) (hsp0_0 : Sl (rInt .i64) wm h pa0_0 pc0_0 p0.in_) (hsp0_1 : Sl (rSl (rInt .i64)) wm h pa0_1 pc0_1 p0.boxes) (hsp0_2 : Sl (rSl rFerryEntry) wm h pa0_2 pc0_2 p0.entries) (hsp0_3 : Sl (rSl rFerryMail) wm h pa0_3 pc0_3 p0.held) (hsp0_4 : Sl rFerryLetter wm h pa0_4 pc0_4 p0.wire) (hL : f35L F p0 = some r) :
    WR XX 35 #[.agg [.slice pa0_0 p0.in_.length pc0_0, .slice pa0_1 p0.boxes.length pc0_1, .slice pa0_2 p0.entries.length pc0_2, .slice pa0_3 p0.held.length pc0_3, .slice pa0_4 p0.wire.length pc0_4, .int .i64 p0.said].toArray] wm h (CP (fun (v : Value) (Gb : List (Ast wm)) => v = .bool r ∧ Gb = []) [] h) := by
 refine bg Tryz.ntmps35 hwm Hold.nil ?_
 intro T hT hS
 unfold f35L at hL
 refine r3 ?_
 rintro _ h2 ⟨b1, eb1, rfl, hS⟩
 refine r6 ?_
 obtain ⟨x3, hx3, hL⟩ := bind_some hL
 refine WO.cp gN rfl (Ent.fn has19 (evs_cons lk evs_nil)) (WR.pureC rfl (f19_wf (Nat.le_refl _) (hS.slu hsp0_0) (hS.slu hsp0_1) (hS.slu hsp0_2) (hS.slu hsp0_3) (hS.slu hsp0_4) hx3)) ?_
 refine r2 ?_
 obtain ⟨x4, hx4, hL⟩ := gd_some hL
 refine WO.gcp (GuardIs.yes rfl rfl rfl (fskip rfl fh)) rfl (fun hg => (Ent.fn has21 (evs_cons (evG fh rfl hg) evs_nil))) (fun hg => f21_ok (hS.slu hsp0_0) (hS.slu hsp0_1) (hS.slu hsp0_2) (hS.slu hsp0_3) (hS.slu hsp0_4) (hx4 hg)) ?_
 refine r4 ?_
 refine r1 ?_
 exact rt hL hT hS
end Go.Proofs.YtbmbbcaaimehkaaGreat
end
end
section
set_option linter.unusedVariables false
set_option linter.unusedSimpArgs false
namespace Go.Proofs.YtbmbbcaaimehkaaGreat
open Go.Lf
def f70_j0 (v6 : Int) (next12 : (Int × (List Spot_) → Option (Inspector × Bool))) : (List Spot_) → Option (Inspector × Bool) := fun v19 =>
  next12 (w64 (v6 + 1), v19)
def f70_b0 (F : Nat) (p0 : Inspector) : Int × (List Spot_) → (Int × (List Spot_) → Option (Inspector × Bool)) → Option (Inspector × Bool) := fun (v6, v8) next12 =>
  (bif decide (v6 < (p0.ferryWorld.in_.length : Int)) then (geti p0.ferryWorld.in_ v6).bind fun x23 => (f67L F p0.ferryWorld v6).bind fun x26 => (bif (x26.2 != 1) then some ((Inspector.mk p0.ferryWorld v8), false) else (geti v8 v6).bind fun x32 => (bif decide (x23 < 0) then (f70_j0 v6 next12) (seti v8 v6 x26.1) else (f67L F p0.ferryWorld x23).bind fun x37 => (gd ((!((x37.1.machine != x26.1.machine) || (x37.1.here != x26.1.here))) && (!x26.1.here)) (f92L F (Inspector.mk p0.ferryWorld (seti v8 v6 x26.1)) v6 x23) default).bind fun x44 => (bif (((x37.1.machine != x26.1.machine) || (x37.1.here != x26.1.here)) || ((!x26.1.here) && (!x44))) then some ((Inspector.mk p0.ferryWorld (seti v8 v6 x26.1)), false) else (f70_j0 v6 next12) (seti v8 v6 x26.1)))) else some ((Inspector.mk p0.ferryWorld v8), true))
def f70L (F : Nat) (p0 : Inspector) : Option (Inspector × Bool) :=
  loop F (f70_b0 F p0) (0, p0.spots)
def f71_j0 (v23 : Int) (next25 : (Int → Option Bool)) : Unit → Option Bool := fun _ =>
  next25 (w64 (v23 + 1))
def f71_b1 (p0 : Inspector) (v6 : Int) (next8 : (Int → Option Bool)) (x9 : (List FerryEntry)) : Int → (Int → Option Bool) → Option Bool := fun v23 next25 =>
  (bif decide (v23 < (x9.length : Int)) then (geti x9 v23).bind fun x36 => (bif eqFerryEntry x36 (FerryEntry.mk true v6 x36.age) then (bif ((decide (x36.age < 0)) || (decide (x36.age > 30))) then some false else (f71_j0 v23 next25) ()) else (gd (!(x36.here || (x36.to_ == v6))) (f93L p0 v23 x36.to_ x36.age) default).bind fun x42 => (bif ((x36.here || (x36.to_ == v6)) || (!x42)) then some false else (f71_j0 v23 next25) ())) else next8 (w64 (v6 + 1)))
def f71_b0 (F : Nat) (p0 : Inspector) : Int → (Int → Option Bool) → Option Bool := fun v6 next8 =>
  (bif decide (v6 < (p0.ferryWorld.entries.length : Int)) then (geti p0.ferryWorld.entries v6).bind fun x9 => loop F (f71_b1 p0 v6 next8 x9) 0 else some true)
def f71L (F : Nat) (p0 : Inspector) : Option Bool :=
  loop F (f71_b0 F p0) 0
end Go.Proofs.YtbmbbcaaimehkaaGreat
end
section
set_option linter.unusedVariables false
set_option linter.unusedSimpArgs false
set_option maxRecDepth 20000
noncomputable section
namespace Go.Proofs.YtbmbbcaaimehkaaGreat
open Go.Abs Go.Lf
theorem f70_wf {F : Nat} {wm : Nat} {h : H} {p0 : Inspector} {pa0_0 : Option Addr} {pc0_0 : Nat} {pa0_1 : Option Addr} {pc0_1 : Nat} {pa0_2 : Option Addr} {pc0_2 : Nat} {pa0_3 : Option Addr} {pc0_3 : Nat} {pa0_4 : Option Addr} {pc0_4 : Nat} {pa0_5 : Option Addr} {pc0_5 : Nat} {pn0_5 : Nat} {pb0 : Nat} {r : (Inspector × Bool)} (hwm : wm ≤ h.size) (hsp0_0 : Sl (rInt .i64) wm h pa0_0 pc0_0 p0.ferryWorld.in_) (hsp0_1 : Sl (rSl (rInt .i64)) wm h pa0_1 pc0_1 p0.ferryWorld.boxes) (hsp0_2 : Sl (rSl rFerryEntry) wm h pa0_2 pc0_2 p0.ferryWorld.entries) (hsp0_3 : Sl (rSl rFerryMail) wm h pa0_3 pc0_3 p0.ferryWorld.held) (hsp0_4 : Sl rFerryLetter wm h pa0_4 pc0_4 p0.ferryWorld.wire) (hO : Hold (wm := wm) [bx wm pb0 [.slice pa0_0 p0.ferryWorld.in_.length pc0_0, .slice pa0_1 p0.ferryWorld.boxes.length pc0_1, .slice pa0_2 p0.ferryWorld.entries.length pc0_2, .slice pa0_3 p0.ferryWorld.held.length pc0_3, .slice pa0_4 p0.ferryWorld.wire.length pc0_4, .int .i64 p0.ferryWorld.said, .slice pa0_5 pn0_5 pc0_5], ow wm rSpot_ pa0_5 pn0_5 pc0_5 p0.spots] h) (hL : f70L F p0 = some r) :
    WR XX 70 #[.pointer (some ⟨pb0, 0, none⟩)] wm h (CP (fun (v : Value) (Gb : List (Ast wm)) => ∃ (rap0_0 : Option Addr) (rcp0_0 : Nat) (rap0_1 : Option Addr) (rcp0_1 : Nat) (rap0_2 : Option Addr) (rcp0_2 : Nat) (rap0_3 : Option Addr) (rcp0_3 : Nat) (rap0_4 : Option Addr) (rcp0_4 : Nat) (rap0_5 : Option Addr) (rnp0_5 : Nat) (rcp0_5 : Nat), v = .bool r.2 ∧ Gb = [bx wm pb0 [.slice rap0_0 r.1.ferryWorld.in_.length rcp0_0, .slice rap0_1 r.1.ferryWorld.boxes.length rcp0_1, .slice rap0_2 r.1.ferryWorld.entries.length rcp0_2, .slice rap0_3 r.1.ferryWorld.held.length rcp0_3, .slice rap0_4 r.1.ferryWorld.wire.length rcp0_4, .int .i64 r.1.ferryWorld.said, .slice rap0_5 rnp0_5 rcp0_5], fzA wm (rSl (rInt .i64)) (rap0_0, rcp0_0) r.1.ferryWorld.in_, fzA wm (rSl (rSl (rInt .i64))) (rap0_1, rcp0_1) r.1.ferryWorld.boxes, fzA wm (rSl (rSl rFerryEntry)) (rap0_2, rcp0_2) r.1.ferryWorld.entries, fzA wm (rSl (rSl rFerryMail)) (rap0_3, rcp0_3) r.1.ferryWorld.held, fzA wm (rSl rFerryLetter) (rap0_4, rcp0_4) r.1.ferryWorld.wire, ow wm rSpot_ rap0_5 rnp0_5 rcp0_5 r.1.spots]) [bx wm pb0 [.slice pa0_0 p0.ferryWorld.in_.length pc0_0, .slice pa0_1 p0.ferryWorld.boxes.length pc0_1, .slice pa0_2 p0.ferryWorld.entries.length pc0_2, .slice pa0_3 p0.ferryWorld.held.length pc0_3, .slice pa0_4 p0.ferryWorld.wire.length pc0_4, .int .i64 p0.ferryWorld.said, .slice pa0_5 pn0_5 pc0_5], ow wm rSpot_ pa0_5 pn0_5 pc0_5 p0.spots] h) := by
 refine bg Tryz.ntmps70 hwm hO ?_
 intro T hT hS
 unfold f70L at hL
 obtain rfl := hS.on k1
 refine r16 ?_
 refine r2 ?_
 refine WC.loop (WL.lift hL (fun (p : Int × (List Spot_)) (s : Fs) => match p with | (v6, v8) => ∃ (fr2 : Fr) (h1 : H) (a9 : Option Addr) (c10 : Nat) (n11 : Nat), s = ⟨fr2, [], h1, none⟩ ∧ Sp wm T h [ow wm rSpot_ a9 n11 c10 v8, bx wm pb0 [.slice pa0_0 p0.ferryWorld.in_.length pc0_0, .slice pa0_1 p0.ferryWorld.boxes.length pc0_1, .slice pa0_2 p0.ferryWorld.entries.length pc0_2, .slice pa0_3 p0.ferryWorld.held.length pc0_3, .slice pa0_4 p0.ferryWorld.wire.length pc0_4, .int .i64 p0.ferryWorld.said, .slice a9 n11 c10]] h1 ∧ fr2.at 0 = .pointer (some ⟨pb0, 0, none⟩) ∧ fr2.at 13 = .slice pa0_0 p0.ferryWorld.in_.length pc0_0 ∧ fr2.at 14 = .int .i64 (p0.ferryWorld.in_.length : Int) ∧ fr2.at 15 = .int .i64 v6) ⟨_, _, pa0_5, pc0_5, p0.spots.length, rfl, hS.only (.c k1 (.c k0 .n)), las⟩ ?_)
 clear hL hS
 rintro next12 ⟨v6, v8⟩ s hnext12 hL ⟨fr2, h1, a9, c10, n11, rfl, hS, e3, e4, e5, e7⟩
 obtain rfl := hS.on k0
 dsimp only [f70_b0] at hL
 refine r6 ?_
 refine cn hL ?_ ?_
 · intro hc hL
   refine r2 ?_
   refine WC.seqJ (r := r) (fun (v19 : (List Spot_)) (s : Fs) => ∃ (fr14 : Fr) (h13 : H) (a20 : Option Addr) (c21 : Nat) (n22 : Nat), s = ⟨fr14, [], h13, none⟩ ∧ Sp wm T h [ow wm rSpot_ a20 n22 c21 v19, bx wm pb0 [.slice pa0_0 p0.ferryWorld.in_.length pc0_0, .slice pa0_1 p0.ferryWorld.boxes.length pc0_1, .slice pa0_2 p0.ferryWorld.entries.length pc0_2, .slice pa0_3 p0.ferryWorld.held.length pc0_3, .slice pa0_4 p0.ferryWorld.wire.length pc0_4, .int .i64 p0.ferryWorld.said, .slice a20 n22 c21]] h13 ∧ fr14.at 0 = .pointer (some ⟨pb0, 0, none⟩) ∧ fr14.at 13 = .slice pa0_0 p0.ferryWorld.in_.length pc0_0 ∧ fr14.at 14 = .int .i64 (p0.ferryWorld.in_.length : Int) ∧ fr14.at 15 = .int .i64 v6) (f70_j0 v6 next12) ?_ ?_
   · clear hL hS
     rintro v19 s hL ⟨fr14, h13, a20, c21, n22, rfl, hS, e15, e16, e17, e18⟩
     obtain rfl := hS.on k0
     dsimp only [f70_j0] at hL
     refine r4 ?_
     exact LoopK.nrm (hnext12 _ _ hL ⟨_, _, a20, c21, v19.length, rfl, hS.only (.c k0 (.c k0 .n)), las⟩)
   · skip
     refine r4 ?_
     obtain ⟨x23, hx23, hL⟩ := bind_some hL
     obtain ⟨b24, o25, _, hab24, hAb24, hBb24, hFb24⟩ := Sl.at_ hsp0_0 hx23
     refine WO.w gN rfl (av_ixn und22 size3 lk lk rfl hab24 hx23) ?_
     refine WO.w gN rfl (av_ld agg3 (evT fh rfl) (At.fz hS.fz hBb24 hAb24) (j := 0) rfl (v := .int .i64 x23) rfl) ?_
     refine r8 ?_
     refine r3 ?_
     obtain ⟨x26, hx26, hL⟩ := bind_some hL
     refine WO.cl gN rfl (Ent.fn has67 (evs_cons lk (evs_cons lk evs_nil))) hS .n (fun g' hz hf hO => f67_wf (by rw [hz]; exact hS.hw) ((hS.sl hsp0_0).mono hf) ((hS.sl hsp0_1).mono hf) ((hS.sl hsp0_2).mono hf) ((hS.sl hsp0_3).mono hf) ((hS.sl hsp0_4).mono hf) hx26) ?_
     rintro _ h27 _ ⟨rfl, rfl⟩ hS
     refine r4 ?_
     rintro _ h30 ⟨b29, eb29, rfl, hS⟩
     refine r1 ?_
     rintro h31 hS
     refine r8 ?_
     refine r2 ?_
     refine cn hL ?_ ?_
     · intro hc hL
       refine r8 ?_
       refine SeqJ.ret ?_
       refine r3 ?_
       have hS := hS.add (A := fzA wm (rSl (rInt .i64)) (pa0_0, pc0_0) p0.ferryWorld.in_) (hS.sl hsp0_0) (fun _ z => z)
       have hS := hS.add (A := fzA wm (rSl (rSl (rInt .i64))) (pa0_1, pc0_1) p0.ferryWorld.boxes) (hS.sl hsp0_1) (fun _ z => z)
       have hS := hS.add (A := fzA wm (rSl (rSl rFerryEntry)) (pa0_2, pc0_2) p0.ferryWorld.entries) (hS.sl hsp0_2) (fun _ z => z)
       have hS := hS.add (A := fzA wm (rSl (rSl rFerryMail)) (pa0_3, pc0_3) p0.ferryWorld.held) (hS.sl hsp0_3) (fun _ z => z)
       have hS := hS.add (A := fzA wm (rSl rFerryLetter) (pa0_4, pc0_4) p0.ferryWorld.wire) (hS.sl hsp0_4) (fun _ z => z)
       have hr := Option.some.inj hL
       subst hr
       exact RetK.gen1 rfl (ares_tmp lk ares_nil) ⟨_, ⟨pa0_0, pc0_0, pa0_1, pc0_1, pa0_2, pc0_2, pa0_3, pc0_3, pa0_4, pc0_4, a9, v8.length, c10, rfl, rfl⟩, hT ▸ hS.only (.c k7 (.c k4 (.c k3 (.c k2 (.c k1 (.c k0 (.c k1 .n)))))))⟩
     · intro hc hL
       refine r3 ?_
       refine WC.drawX mixed (by kernel_rfl) ?_
       refine r6 ?_
       obtain ⟨x32, hx32, hL⟩ := bind_some hL
       obtain ⟨b33, o34, _, hab33, hAb33, hFb33⟩ := Src.at_ (hS.osrc k1) hx32
       refine WX.w gN rfl (av_ixn und124 size120 lk lk rfl hab33 hx32) ?_ rfl
       refine WX.hu gN (s_ste (e := rSpot_) x26.1 () hS k1 size120 (evT fh rfl) (evT (fskip rfl fh) rfl) hab33 hx32 hAb33 (j := 0) rfl (vs := [.int .i64 x26.1.machine, .bool x26.1.here, .int .i64 x26.1.age]) rfl rfl rfl rfl rfl (cs' := [.int .i64 x26.1.machine, .bool x26.1.here, .int .i64 x26.1.age]) rfl rfl trivial) ?_ rfl rfl [] (by kernel_rfl) Blind.e
       rintro h35 ⟨hS, hA36⟩
       refine r8 ?_
       refine r1 ?_
       refine cn hL ?_ ?_
       · intro hc hL
         refine r3 ?_
         exact SeqJ.nrm _ hL ⟨_, _, a9, c10, v8.length, rfl, hS.only (.c k0 (.c k1 .n)), las⟩
       · intro hc hL
         refine r8 ?_
         refine r1 ?_
         obtain ⟨x37, hx37, hL⟩ := bind_some hL
         refine WO.cl gN rfl (Ent.fn has67 (evs_cons lk (evs_cons lk evs_nil))) hS .n (fun g' hz hf hO => f67_wf (by rw [hz]; exact hS.hw) ((hS.sl hsp0_0).mono hf) ((hS.sl hsp0_1).mono hf) ((hS.sl hsp0_2).mono hf) ((hS.sl hsp0_3).mono hf) ((hS.sl hsp0_4).mono hf) hx37) ?_
         rintro _ h38 _ ⟨rfl, rfl⟩ hS
         refine r4 ?_
         rintro _ h41 ⟨b40, eb40, rfl, hS⟩
         refine r1 ?_
         rintro h42 hS
         refine r12 ?_
         refine r3 ?_
         refine WO.gv (GuardIs.no rfl rfl rfl (fs4 rfl fh)) rfl (fun hg => (av_bin (evG (fs2 rfl fh) rfl hg) (evG fh rfl hg) (abin_neqB und4))) ?_
         refine r8 ?_
         refine r1 ?_
         have hq43 := hS.on k1
         rw [hq43] at hS
         try rw [hq43]
         obtain ⟨x44, hx44, hL⟩ := gd_some hL
         refine WO.gcp (GuardIs.yes2 rfl rfl rfl (fs2 rfl (fskip rfl fh))) rfl (fun hg => (Ent.fn has92 (evs_cons (evG (fs2 rfl fh) rfl hg) (evs_cons (evG (fskip rfl fh) rfl hg) (evs_cons (evG fh rfl hg) evs_nil))))) (fun hg => f92_ok (p0 := (Inspector.mk p0.ferryWorld (seti v8 v6 x26.1))) (hS.atB k3) (.inl (hS.lt k3)) (hS.slu hsp0_0) (hS.slu hsp0_1) (hS.slu hsp0_2) (hS.slu hsp0_3) (hS.slu hsp0_4) (hS.ord k1) (hx44 hg)) ?_
         refine r1 ?_
         refine WO.gv (GuardIs.no rfl rfl rfl (fs8 rfl (fskip rfl fh))) rfl (fun hg => (av_and (evG (fs4 rfl (fskip rfl fh)) rfl hg) (evGU2 fh hg) lk)) ?_
         refine r3 ?_
         refine cn hL ?_ ?_
         · intro hc hL
           refine r6 ?_
           refine r1 ?_
           refine SeqJ.ret ?_
           refine r3 ?_
           have hS := hS.add (A := fzA wm (rSl (rInt .i64)) (pa0_0, pc0_0) p0.ferryWorld.in_) (hS.sl hsp0_0) (fun _ z => z)
           have hS := hS.add (A := fzA wm (rSl (rSl (rInt .i64))) (pa0_1, pc0_1) p0.ferryWorld.boxes) (hS.sl hsp0_1) (fun _ z => z)
           have hS := hS.add (A := fzA wm (rSl (rSl rFerryEntry)) (pa0_2, pc0_2) p0.ferryWorld.entries) (hS.sl hsp0_2) (fun _ z => z)
           have hS := hS.add (A := fzA wm (rSl (rSl rFerryMail)) (pa0_3, pc0_3) p0.ferryWorld.held) (hS.sl hsp0_3) (fun _ z => z)
           have hS := hS.add (A := fzA wm (rSl rFerryLetter) (pa0_4, pc0_4) p0.ferryWorld.wire) (hS.sl hsp0_4) (fun _ z => z)
           have hr := Option.some.inj hL
           subst hr
           exact RetK.gen1 rfl (ares_tmp lk ares_nil) ⟨_, ⟨pa0_0, pc0_0, pa0_1, pc0_1, pa0_2, pc0_2, pa0_3, pc0_3, pa0_4, pc0_4, a9, (seti v8 v6 x26.1).length, c10, rfl, rfl⟩, hT ▸ hS.only (.c k8 (.c k4 (.c k3 (.c k2 (.c k1 (.c k0 (.c k1 .n)))))))⟩
         · intro hc hL
           refine r2 ?_
           exact SeqJ.nrm _ hL ⟨_, _, a9, c10, (seti v8 v6 x26.1).length, rfl, hS.only (.c k1 (.c k2 .n)), las⟩
 · intro hc hL
   refine r8 ?_
   refine r3 ?_
   have hS := hS.add (A := fzA wm (rSl (rInt .i64)) (pa0_0, pc0_0) p0.ferryWorld.in_) (hS.sl hsp0_0) (fun _ z => z)
   have hS := hS.add (A := fzA wm (rSl (rSl (rInt .i64))) (pa0_1, pc0_1) p0.ferryWorld.boxes) (hS.sl hsp0_1) (fun _ z => z)
   have hS := hS.add (A := fzA wm (rSl (rSl rFerryEntry)) (pa0_2, pc0_2) p0.ferryWorld.entries) (hS.sl hsp0_2) (fun _ z => z)
   have hS := hS.add (A := fzA wm (rSl (rSl rFerryMail)) (pa0_3, pc0_3) p0.ferryWorld.held) (hS.sl hsp0_3) (fun _ z => z)
   have hS := hS.add (A := fzA wm (rSl rFerryLetter) (pa0_4, pc0_4) p0.ferryWorld.wire) (hS.sl hsp0_4) (fun _ z => z)
   have hr := Option.some.inj hL
   subst hr
   exact RetK.gen1 rfl (ares_tmp lk ares_nil) ⟨_, ⟨pa0_0, pc0_0, pa0_1, pc0_1, pa0_2, pc0_2, pa0_3, pc0_3, pa0_4, pc0_4, a9, v8.length, c10, rfl, rfl⟩, hT ▸ hS.only (.c k6 (.c k4 (.c k3 (.c k2 (.c k1 (.c k0 (.c k0 .n)))))))⟩
theorem f71_wf {F : Nat} {wm : Nat} {h : H} {p0 : Inspector} {pa0_0 : Option Addr} {pc0_0 : Nat} {pa0_1 : Option Addr} {pc0_1 : Nat} {pa0_2 : Option Addr} {pc0_2 : Nat} {pa0_3 : Option Addr} {pc0_3 : Nat} {pa0_4 : Option Addr} {pc0_4 : Nat} {pa0_5 : Option Addr} {pc0_5 : Nat} {pb0 : Nat} {po0 : Nat} {r : Bool} (hwm : wm ≤ h.size) (hAp0 : At h pb0 po0 [.slice pa0_0 p0.ferryWorld.in_.length pc0_0, .slice pa0_1 p0.ferryWorld.boxes.length pc0_1, .slice pa0_2 p0.ferryWorld.entries.length pc0_2, .slice pa0_3 p0.ferryWorld.held.length pc0_3, .slice pa0_4 p0.ferryWorld.wire.length pc0_4, .int .i64 p0.ferryWorld.said, .slice pa0_5 p0.spots.length pc0_5]) (hBp0 : Stb wm h pb0) (hsp0_0 : Sl (rInt .i64) wm h pa0_0 pc0_0 p0.ferryWorld.in_) (hsp0_1 : Sl (rSl (rInt .i64)) wm h pa0_1 pc0_1 p0.ferryWorld.boxes) (hsp0_2 : Sl (rSl rFerryEntry) wm h pa0_2 pc0_2 p0.ferryWorld.entries) (hsp0_3 : Sl (rSl rFerryMail) wm h pa0_3 pc0_3 p0.ferryWorld.held) (hsp0_4 : Sl rFerryLetter wm h pa0_4 pc0_4 p0.ferryWorld.wire) (hsp0_5 : Sl rSpot_ wm h pa0_5 pc0_5 p0.spots) (hL : f71L F p0 = some r) :
    WR XX 71 #[.pointer (some ⟨pb0, po0, none⟩)] wm h (CP (fun (v : Value) (Gb : List (Ast wm)) => v = .bool r ∧ Gb = []) [] h) := by
 refine bg Tryz.ntmps71 hwm Hold.nil ?_
 intro T hT hS
 unfold f71L at hL
 refine r12 ?_
 refine WO.w gN rfl (av_ld agg25 (evT fh rfl) (At.fz hS.fz hBp0 hAp0) (j := 2) rfl (v := .slice pa0_2 p0.ferryWorld.entries.length pc0_2) rfl) ?_
 refine r4 ?_
 refine r1 ?_
 refine WC.loop (WL.lift hL (fun (v6 : Int) (s : Fs) => ∃ (fr2 : Fr) (h1 : H), s = ⟨fr2, [], h1, none⟩ ∧ Sp wm T h [] h1 ∧ fr2.at 0 = .pointer (some ⟨pb0, po0, none⟩) ∧ fr2.at 11 = .slice pa0_2 p0.ferryWorld.entries.length pc0_2 ∧ fr2.at 12 = .int .i64 (p0.ferryWorld.entries.length : Int) ∧ fr2.at 13 = .int .i64 v6) ⟨_, _, rfl, hS.only .n, las⟩ ?_)
 clear hL hS
 rintro next8 v6 s hnext8 hL ⟨fr2, h1, rfl, hS, e3, e4, e5, e7⟩
 dsimp only [f71_b0] at hL
 refine r6 ?_
 refine cn hL ?_ ?_
 · intro hc hL
   refine r6 ?_
   refine r1 ?_
   obtain ⟨x9, hx9, hL⟩ := bind_some hL
   obtain ⟨b10, o11, ⟨a12, c13⟩, hab10, hAb10, hBb10, hFb10⟩ := Sl.at_ hsp0_2 hx9
   refine WO.w gN rfl (av_ixn und25 size64 lk lk rfl hab10 hx9) ?_
   have hsa12 : Sl rFerryEntry wm h a12 c13 x9 := hFb10
   refine WO.w gN rfl (av_ld agg64 (evT fh rfl) (At.fz hS.fz hBb10 hAb10) (j := 0) rfl (v := .slice a12 x9.length c13) rfl) ?_
   refine r12 ?_
   refine WC.loop (WL.lift hL (fun (v23 : Int) (s : Fs) => ∃ (fr15 : Fr) (h14 : H), s = ⟨fr15, [], h14, none⟩ ∧ Sp wm T h [] h14 ∧ fr15.at 0 = .pointer (some ⟨pb0, po0, none⟩) ∧ fr15.at 3 = .int .i64 v6 ∧ fr15.at 11 = .slice pa0_2 p0.ferryWorld.entries.length pc0_2 ∧ fr15.at 12 = .int .i64 (p0.ferryWorld.entries.length : Int) ∧ fr15.at 13 = .int .i64 v6 ∧ fr15.at 18 = .slice a12 x9.length c13 ∧ fr15.at 19 = .int .i64 (x9.length : Int) ∧ fr15.at 20 = .int .i64 v23) ⟨_, _, rfl, hS.only .n, las⟩ ?_)
   clear hL hS
   rintro next25 v23 s hnext25 hL ⟨fr15, h14, rfl, hS, e16, e17, e18, e19, e20, e21, e22, e24⟩
   dsimp only [f71_b1] at hL
   refine r6 ?_
   refine cn hL ?_ ?_
   · intro hc hL
     refine r2 ?_
     refine WC.seqJ (r := r) (fun (_ : Unit) (s : Fs) => ∃ (fr27 : Fr) (h26 : H), s = ⟨fr27, [], h26, none⟩ ∧ Sp wm T h [] h26 ∧ fr27.at 0 = .pointer (some ⟨pb0, po0, none⟩) ∧ fr27.at 3 = .int .i64 v6 ∧ fr27.at 11 = .slice pa0_2 p0.ferryWorld.entries.length pc0_2 ∧ fr27.at 12 = .int .i64 (p0.ferryWorld.entries.length : Int) ∧ fr27.at 13 = .int .i64 v6 ∧ fr27.at 18 = .slice a12 x9.length c13 ∧ fr27.at 19 = .int .i64 (x9.length : Int) ∧ fr27.at 20 = .int .i64 v23) (f71_j0 v23 next25) ?_ ?_
     · clear hL hS
       rintro _ s hL ⟨fr27, h26, rfl, hS, e28, e29, e30, e31, e32, e33, e34, e35⟩
       dsimp only [f71_j0] at hL
       refine r4 ?_
       exact LoopK.nrm (hnext25 _ _ hL ⟨_, _, rfl, hS.only .n, las⟩)
     · skip
       refine r4 ?_
       obtain ⟨x36, hx36, hL⟩ := bind_some hL
       obtain ⟨b37, o38, _, hab37, hAb37, hBb37, hFb37⟩ := Sl.at_ hsa12 hx36
       refine WO.w gN rfl (av_ixn und64 size63 lk lk rfl hab37 hx36) ?_
       refine WO.w gN rfl (av_ldA agg63 size63 (evT fh rfl) (At.fz hS.fz hBb37 hAb37) (j := 0) rfl rfl (ws := [.bool x36.here, .int .i64 x36.to_, .int .i64 x36.age]) rfl) ?_
       refine r1 ?_
       rintro _ h40 ⟨b39, eb39, rfl, hS⟩
       refine r2 ?_
       rintro h41 hS
       refine r8 ?_
       refine r1 ?_
       refine WO.w gN rfl (av_bld bld63 (evp_cons lk (evp_cons lk (evp_cons lk evp_nil))) rfl (cs' := [.bool true, .int .i64 v6, .int .i64 x36.age]) rfl) ?_
       refine WO.w gN rfl (av_bin (evT (fs4 rfl fh) rfl) (evT fh rfl) (abin_eqS (xs := [.bool x36.here, .int .i64 x36.to_, .int .i64 x36.age]) (ys := [.bool true, .int .i64 v6, .int .i64 x36.age]) (eqs63 x36 (FerryEntry.mk true v6 x36.age)) rfl rfl)) ?_
       refine r3 ?_
       refine cn hL ?_ ?_
       · intro hc hL
         refine r12 ?_
         refine cn hL ?_ ?_
         · intro hc hL
           refine r8 ?_
           refine SeqJ.ret ?_
           refine r6 ?_
           refine r1 ?_
           exact rt hL hT hS
         · intro hc hL
           refine r3 ?_
           exact SeqJ.nrm _ hL ⟨_, _, rfl, hS.only .n, las⟩
       · intro hc hL
         refine r16 ?_
         refine r1 ?_
         obtain ⟨x42, hx42, hL⟩ := gd_some hL
         refine WO.gcp (GuardIs.no rfl rfl rfl (fs4 rfl (fs2 rfl fh))) rfl (fun hg => (Ent.fn has93 (evs_cons (evG (fs4 rfl (fskip rfl fh)) rfl hg) (evs_cons (evG (fs4 rfl fh) rfl hg) (evs_cons (evG (fs2 rfl fh) rfl hg) (evs_cons (evG fh rfl hg) evs_nil)))))) (fun hg => f93_ok (At.fz hS.fz hBp0 hAp0) (Stb.up hS.hw (Stb.fz hS.fz hAp0 hBp0)) (hS.slu hsp0_0) (hS.slu hsp0_1) (hS.slu hsp0_2) (hS.slu hsp0_3) (hS.slu hsp0_4) (hS.slu hsp0_5) (hx42 hg)) ?_
         refine r4 ?_
         refine r1 ?_
         refine cn hL ?_ ?_
         · intro hc hL
           refine r8 ?_
           refine SeqJ.ret ?_
           refine r6 ?_
           refine r1 ?_
           exact rt hL hT hS
         · intro hc hL
           refine r3 ?_
           exact SeqJ.nrm _ hL ⟨_, _, rfl, hS.only .n, las⟩
   · intro hc hL
     refine r8 ?_
     refine r2 ?_
     exact LoopK.nrm (hnext8 _ _ hL ⟨_, _, rfl, hS.only .n, las⟩)
 · intro hc hL
   refine r8 ?_
   refine r3 ?_
   exact rt hL hT hS
theorem f71_ok {F : Nat} {h : H} {p0 : Inspector} {pa0_0 : Option Addr} {pc0_0 : Nat} {pa0_1 : Option Addr} {pc0_1 : Nat} {pa0_2 : Option Addr} {pc0_2 : Nat} {pa0_3 : Option Addr} {pc0_3 : Nat} {pa0_4 : Option Addr} {pc0_4 : Nat} {pa0_5 : Option Addr} {pc0_5 : Nat} {pb0 : Nat} {po0 : Nat} {r : Bool} (hAp0 : At h pb0 po0 [.slice pa0_0 p0.ferryWorld.in_.length pc0_0, .slice pa0_1 p0.ferryWorld.boxes.length pc0_1, .slice pa0_2 p0.ferryWorld.entries.length pc0_2, .slice pa0_3 p0.ferryWorld.held.length pc0_3, .slice pa0_4 p0.ferryWorld.wire.length pc0_4, .int .i64 p0.ferryWorld.said, .slice pa0_5 p0.spots.length pc0_5]) (hBp0 : Stb h.size h pb0) (hsp0_0 : Sl (rInt .i64) h.size h pa0_0 pc0_0 p0.ferryWorld.in_) (hsp0_1 : Sl (rSl (rInt .i64)) h.size h pa0_1 pc0_1 p0.ferryWorld.boxes) (hsp0_2 : Sl (rSl rFerryEntry) h.size h pa0_2 pc0_2 p0.ferryWorld.entries) (hsp0_3 : Sl (rSl rFerryMail) h.size h pa0_3 pc0_3 p0.ferryWorld.held) (hsp0_4 : Sl rFerryLetter h.size h pa0_4 pc0_4 p0.ferryWorld.wire) (hsp0_5 : Sl rSpot_ h.size h pa0_5 pc0_5 p0.spots) (hL : f71L F p0 = some r) : Pure XX 71 #[.pointer (some ⟨pb0, po0, none⟩)] h (.bool r) :=
 WR.pureC rfl (f71_wf (Nat.le_refl _) hAp0 hBp0 hsp0_0 hsp0_1 hsp0_2 hsp0_3 hsp0_4 hsp0_5 hL)
end Go.Proofs.YtbmbbcaaimehkaaGreat
end
end
section
set_option linter.unusedVariables false
set_option linter.unusedSimpArgs false
namespace Go.Proofs.YtbmbbcaaimehkaaGreat
open Go.Lf
def f74L (p0 : Inspector) (p1 : Int) (p2 : FerryMail) : Option Bool :=
  (f96L p0 p2.place).bind fun x3 => (gd x3 (f95L p0 p2.from_) default).bind fun x4 => (gd (x3 && x4) (f93L p0 p2.place p1 p2.age) default).bind fun x5 => some ((((x3 && x4) && x5) && (decide (p2.hops ≥ 1))) && (decide (p2.hops ≤ (w64 (1 + p2.age)))))
end Go.Proofs.YtbmbbcaaimehkaaGreat
end
section
set_option linter.unusedVariables false
set_option linter.unusedSimpArgs false
set_option maxRecDepth 20000
noncomputable section
namespace Go.Proofs.YtbmbbcaaimehkaaGreat
open Go.Abs Go.Lf
theorem f74_wf {wm : Nat} {h : H} {p0 : Inspector} {p1 : Int} {p2 : FerryMail} {pa0_0 : Option Addr} {pc0_0 : Nat} {pa0_1 : Option Addr} {pc0_1 : Nat} {pa0_2 : Option Addr} {pc0_2 : Nat} {pa0_3 : Option Addr} {pc0_3 : Nat} {pa0_4 : Option Addr} {pc0_4 : Nat} {pa0_5 : Option Addr} {pc0_5 : Nat} {pb0 : Nat} {po0 : Nat} {r : Bool} (hwm : wm ≤ h.size) (hAp0 : At h pb0 po0 [.slice pa0_0 p0.ferryWorld.in_.length pc0_0, .slice pa0_1 p0.ferryWorld.boxes.length pc0_1, .slice pa0_2 p0.ferryWorld.entries.length pc0_2, .slice pa0_3 p0.ferryWorld.held.length pc0_3, .slice pa0_4 p0.ferryWorld.wire.length pc0_4, .int .i64 p0.ferryWorld.said, .slice pa0_5 p0.spots.length pc0_5]) (hBp0 : Stb wm h pb0) (hsp0_0 : Sl (rInt .i64) wm h pa0_0 pc0_0 p0.ferryWorld.in_) (hsp0_1 : Sl (rSl (rInt .i64)) wm h pa0_1 pc0_1 p0.ferryWorld.boxes) (hsp0_2 : Sl (rSl rFerryEntry) wm h pa0_2 pc0_2 p0.ferryWorld.entries) (hsp0_3 : Sl (rSl rFerryMail) wm h pa0_3 pc0_3 p0.ferryWorld.held) (hsp0_4 : Sl rFerryLetter wm h pa0_4 pc0_4 p0.ferryWorld.wire) (hsp0_5 : Sl rSpot_ wm h pa0_5 pc0_5 p0.spots) (hL : f74L p0 p1 p2 = some r) :
    WR XX 74 #[.pointer (some ⟨pb0, po0, none⟩), .int .i64 p1, .agg [.int .i64 p2.msg, .int .i64 p2.place, .int .i64 p2.from_, .int .i64 p2.age, .int .i64 p2.hops].toArray] wm h (CP (fun (v : Value) (Gb : List (Ast wm)) => v = .bool r ∧ Gb = []) [] h) := by
 refine bg Tryz.ntmps74 hwm Hold.nil ?_
 intro T hT hS
 unfold f74L at hL
 refine r3 ?_
 rintro _ h2 ⟨b1, eb1, rfl, hS⟩
 refine r8 ?_
 obtain ⟨x3, hx3, hL⟩ := bind_some hL
 refine WO.cp gN rfl (Ent.fn has96 (evs_cons lk (evs_cons lk evs_nil))) (f96_ok (At.fz hS.fz hBp0 hAp0) (Stb.up hS.hw (Stb.fz hS.fz hAp0 hBp0)) (hS.slu hsp0_0) (hS.slu hsp0_1) (hS.slu hsp0_2) (hS.slu hsp0_3) (hS.slu hsp0_4) (hS.slu hsp0_5) hx3) ?_
 refine r4 ?_
 obtain ⟨x4, hx4, hL⟩ := gd_some hL
 refine WO.gcp (GuardIs.yes rfl rfl rfl (fs2 rfl (fskip rfl fh))) rfl (fun hg => (Ent.fn has95 (evs_cons (evG (fs2 rfl fh) rfl hg) (evs_cons (evG fh rfl hg) evs_nil)))) (fun hg => f95_ok (At.fz hS.fz hBp0 hAp0) (Stb.up hS.hw (Stb.fz hS.fz hAp0 hBp0)) (hS.slu hsp0_0) (hS.slu hsp0_1) (hS.slu hsp0_2) (hS.slu hsp0_3) (hS.slu hsp0_4) (hS.slu hsp0_5) (hx4 hg)) ?_
 refine r8 ?_
 obtain ⟨x5, hx5, hL⟩ := gd_some hL
 refine WO.gcp (GuardIs.yes rfl rfl rfl (fs4 rfl (fs2 rfl fh))) rfl (fun hg => (Ent.fn has93 (evs_cons (evG (fs4 rfl (fskip rfl fh)) rfl hg) (evs_cons (evG (fs2 rfl (fskip rfl fh)) rfl hg) (evs_cons (evG (fs2 rfl fh) rfl hg) (evs_cons (evG fh rfl hg) evs_nil)))))) (fun hg => f93_ok (At.fz hS.fz hBp0 hAp0) (Stb.up hS.hw (Stb.fz hS.fz hAp0 hBp0)) (hS.slu hsp0_0) (hS.slu hsp0_1) (hS.slu hsp0_2) (hS.slu hsp0_3) (hS.slu hsp0_4) (hS.slu hsp0_5) (hx5 hg)) ?_
 refine r16 ?_
 refine r2 ?_
 exact rt hL hT hS
end Go.Proofs.YtbmbbcaaimehkaaGreat
end
end
