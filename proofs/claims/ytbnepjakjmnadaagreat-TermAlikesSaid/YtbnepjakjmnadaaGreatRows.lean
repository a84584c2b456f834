/-
  NARROWER THAN 'FOR EVERY INPUT', by the rows' own cells (each row's printed sentence says how): TermChecks: loops · TermFrees: loops · TermPuts: loops · TermFreePut: loops · TermLayouts: loops · TermSubsts: loops · TermAlikes: loops · TermCanons: loops · TermParts: loops.
  DERIVED. THE GIVEN ROWS OF THIS SEAT. 10 by the template 'for every input the law returns true; each argument reads behind the call as it read before'; 0 by the template 'total and deterministic' (their statements: YtbnepjakjmnadaaGreatTotals.lean).
  GIVEN WITH THE SEED: the statements are not yours to turn. If you find one false, say at which input.
  Laid BY PROGRAM, IN A SANDBOX (cutbox-rows.mjs): the forced cells as the released guide's own fill.sh prints them over the translation 81535605f1241e3a… (all of the seat's roots in one cut). By AI agents, Wed Nov 11 2026. No macro, syntax, notation, axiom, sorry.
-/
import Derived.Test.YtbnepjakjmnadaaGreatChecked
import GoSem.Claim
import GoSem.ClaimJoined
import GoSem.ClaimMapViews
import Derived.JoinedTies
import Derived.KernelRfl
namespace Go.Proofs.YtbnepjakjmnadaaGreat
/- THE CELL 'sum', in the pinned program and in every row, IS THE sha256 OF THE DUMP (.gsa) THAT YtbnepjakjmnadaaGreatProg.lean LOADS. Nothing in Lean hashes anything: it is a label: what it is worth is what the hold of that sum in a sandbox is worth. -/
noncomputable def Tryz.pinned : Pinned := { name := "ytbnepjakjmnadaagreat", sum := "81535605f1241e3a4987c66518afa5740c675fc06de6381095c47a0da70ce3dd", checked := Tryz.checked }
namespace Rows
def none {H : Type} : Left H := { results := [], args := [] }

/-- 'cabotagelaw01.TermNames': WHATEVER THE INPUT: true; the input reads as it did. -/
def termNamesSpec : ChangeSpec := { name := "termNames", fn := fun _ => fun
  | [d1, d2] => { results := [.lit (.bool true)], args := [d1, d2] }
  | _ => none }
def termNamesRow : OpenClaim := { program := "ytbnepjakjmnadaagreat", sum := "81535605f1241e3a4987c66518afa5740c675fc06de6381095c47a0da70ce3dd", func := "cabotage/cabotagelaw01.TermNames", spec := "termNames", unfollowed := true, recurses := true, apart := false }
def TermNamesSaid : Prop := termNamesRow.holds Tryz.pinned (OpenSpec.ofChange termNamesSpec)

/-- ITS FALSE NEIGHBOUR: 'it returns false'. Refute it at one input. -/
def termNamesWrong : ChangeSpec := { name := "termNames", fn := fun _ => fun
  | [d1, d2] => { results := [.lit (.bool false)], args := [d1, d2] }
  | _ => none }
def TermNamesWrongFalsely : Prop := termNamesRow.holds Tryz.pinned (OpenSpec.ofChange termNamesWrong)

/-- 'cabotagelaw01.TermChecks': WHATEVER THE INPUT: true; the input reads as it did. -/
def termChecksSpec : ChangeSpec := { name := "termChecks", fn := fun _ => fun
  | [d1, d2] => { results := [.lit (.bool true)], args := [d1, d2] }
  | _ => none }
def termChecksRow : OpenClaim := { program := "ytbnepjakjmnadaagreat", sum := "81535605f1241e3a4987c66518afa5740c675fc06de6381095c47a0da70ce3dd", func := "cabotage/cabotagelaw01.TermChecks", spec := "termChecks", unfollowed := true, recurses := true, loops := true, apart := false }
def TermChecksSaid : Prop := termChecksRow.holds Tryz.pinned (OpenSpec.ofChange termChecksSpec)

/-- ITS FALSE NEIGHBOUR: 'it returns false'. Refute it at one input. -/
def termChecksWrong : ChangeSpec := { name := "termChecks", fn := fun _ => fun
  | [d1, d2] => { results := [.lit (.bool false)], args := [d1, d2] }
  | _ => none }
def TermChecksWrongFalsely : Prop := termChecksRow.holds Tryz.pinned (OpenSpec.ofChange termChecksWrong)

/-- 'cabotagelaw01.TermFrees': WHATEVER THE INPUT: true; the input reads as it did. -/
def termFreesSpec : ChangeSpec := { name := "termFrees", fn := fun _ => fun
  | [d] => { results := [.lit (.bool true)], args := [d] }
  | _ => none }
def termFreesRow : OpenClaim := { program := "ytbnepjakjmnadaagreat", sum := "81535605f1241e3a4987c66518afa5740c675fc06de6381095c47a0da70ce3dd", func := "cabotage/cabotagelaw01.TermFrees", spec := "termFrees", unfollowed := true, recurses := true, loops := true, apart := false }
def TermFreesSaid : Prop := termFreesRow.holds Tryz.pinned (OpenSpec.ofChange termFreesSpec)

/-- ITS FALSE NEIGHBOUR: 'it returns false'. Refute it at one input. -/
def termFreesWrong : ChangeSpec := { name := "termFrees", fn := fun _ => fun
  | [d] => { results := [.lit (.bool false)], args := [d] }
  | _ => none }
def TermFreesWrongFalsely : Prop := termFreesRow.holds Tryz.pinned (OpenSpec.ofChange termFreesWrong)

/-- 'cabotagelaw01.TermPuts': WHATEVER THE INPUT: true; the input reads as it did. -/
def termPutsSpec : ChangeSpec := { name := "termPuts", fn := fun _ => fun
  | [d1, d2, d3] => { results := [.lit (.bool true)], args := [d1, d2, d3] }
  | _ => none }
def termPutsRow : OpenClaim := { program := "ytbnepjakjmnadaagreat", sum := "81535605f1241e3a4987c66518afa5740c675fc06de6381095c47a0da70ce3dd", func := "cabotage/cabotagelaw01.TermPuts", spec := "termPuts", unfollowed := true, recurses := true, loops := true, apart := false }
def TermPutsSaid : Prop := termPutsRow.holds Tryz.pinned (OpenSpec.ofChange termPutsSpec)

/-- ITS FALSE NEIGHBOUR: 'it returns false'. Refute it at one input. -/
def termPutsWrong : ChangeSpec := { name := "termPuts", fn := fun _ => fun
  | [d1, d2, d3] => { results := [.lit (.bool false)], args := [d1, d2, d3] }
  | _ => none }
def TermPutsWrongFalsely : Prop := termPutsRow.holds Tryz.pinned (OpenSpec.ofChange termPutsWrong)

/-- 'cabotagelaw01.TermFreePut': WHATEVER THE INPUT: true; the input reads as it did. -/
def termFreePutSpec : ChangeSpec := { name := "termFreePut", fn := fun _ => fun
  | [d1, d2, d3] => { results := [.lit (.bool true)], args := [d1, d2, d3] }
  | _ => none }
def termFreePutRow : OpenClaim := { program := "ytbnepjakjmnadaagreat", sum := "81535605f1241e3a4987c66518afa5740c675fc06de6381095c47a0da70ce3dd", func := "cabotage/cabotagelaw01.TermFreePut", spec := "termFreePut", unfollowed := true, recurses := true, loops := true, apart := false }
def TermFreePutSaid : Prop := termFreePutRow.holds Tryz.pinned (OpenSpec.ofChange termFreePutSpec)

/-- ITS FALSE NEIGHBOUR: 'it returns false'. Refute it at one input. -/
def termFreePutWrong : ChangeSpec := { name := "termFreePut", fn := fun _ => fun
  | [d1, d2, d3] => { results := [.lit (.bool false)], args := [d1, d2, d3] }
  | _ => none }
def TermFreePutWrongFalsely : Prop := termFreePutRow.holds Tryz.pinned (OpenSpec.ofChange termFreePutWrong)

/-- 'cabotagelaw01.TermLayouts': WHATEVER THE INPUT: true; the input reads as it did. -/
def termLayoutsSpec : ChangeSpec := { name := "termLayouts", fn := fun _ => fun
  | [d] => { results := [.lit (.bool true)], args := [d] }
  | _ => none }
def termLayoutsRow : OpenClaim := { program := "ytbnepjakjmnadaagreat", sum := "81535605f1241e3a4987c66518afa5740c675fc06de6381095c47a0da70ce3dd", func := "cabotage/cabotagelaw01.TermLayouts", spec := "termLayouts", unfollowed := true, recurses := true, loops := true, apart := false }
def TermLayoutsSaid : Prop := termLayoutsRow.holds Tryz.pinned (OpenSpec.ofChange termLayoutsSpec)

/-- ITS FALSE NEIGHBOUR: 'it returns false'. Refute it at one input. -/
def termLayoutsWrong : ChangeSpec := { name := "termLayouts", fn := fun _ => fun
  | [d] => { results := [.lit (.bool false)], args := [d] }
  | _ => none }
def TermLayoutsWrongFalsely : Prop := termLayoutsRow.holds Tryz.pinned (OpenSpec.ofChange termLayoutsWrong)

/-- 'cabotagelaw01.TermSubsts': WHATEVER THE INPUT: true; the input reads as it did. -/
def termSubstsSpec : ChangeSpec := { name := "termSubsts", fn := fun _ => fun
  | [d1, d2] => { results := [.lit (.bool true)], args := [d1, d2] }
  | _ => none }
def termSubstsRow : OpenClaim := { program := "ytbnepjakjmnadaagreat", sum := "81535605f1241e3a4987c66518afa5740c675fc06de6381095c47a0da70ce3dd", func := "cabotage/cabotagelaw01.TermSubsts", spec := "termSubsts", unfollowed := true, recurses := true, loops := true, apart := false }
def TermSubstsSaid : Prop := termSubstsRow.holds Tryz.pinned (OpenSpec.ofChange termSubstsSpec)

/-- ITS FALSE NEIGHBOUR: 'it returns false'. Refute it at one input. -/
def termSubstsWrong : ChangeSpec := { name := "termSubsts", fn := fun _ => fun
  | [d1, d2] => { results := [.lit (.bool false)], args := [d1, d2] }
  | _ => none }
def TermSubstsWrongFalsely : Prop := termSubstsRow.holds Tryz.pinned (OpenSpec.ofChange termSubstsWrong)

/-- 'cabotagelaw01.TermAlikes': WHATEVER THE INPUT: true; the input reads as it did. -/
def termAlikesSpec : ChangeSpec := { name := "termAlikes", fn := fun _ => fun
  | [d1, d2] => { results := [.lit (.bool true)], args := [d1, d2] }
  | _ => none }
def termAlikesRow : OpenClaim := { program := "ytbnepjakjmnadaagreat", sum := "81535605f1241e3a4987c66518afa5740c675fc06de6381095c47a0da70ce3dd", func := "cabotage/cabotagelaw01.TermAlikes", spec := "termAlikes", unfollowed := true, recurses := true, loops := true, apart := false }
def TermAlikesSaid : Prop := termAlikesRow.holds Tryz.pinned (OpenSpec.ofChange termAlikesSpec)

/-- ITS FALSE NEIGHBOUR: 'it returns false'. Refute it at one input. -/
def termAlikesWrong : ChangeSpec := { name := "termAlikes", fn := fun _ => fun
  | [d1, d2] => { results := [.lit (.bool false)], args := [d1, d2] }
  | _ => none }
def TermAlikesWrongFalsely : Prop := termAlikesRow.holds Tryz.pinned (OpenSpec.ofChange termAlikesWrong)

/-- 'cabotagelaw01.TermCanons': WHATEVER THE INPUT: true; the input reads as it did. -/
def termCanonsSpec : ChangeSpec := { name := "termCanons", fn := fun _ => fun
  | [d] => { results := [.lit (.bool true)], args := [d] }
  | _ => none }
def termCanonsRow : OpenClaim := { program := "ytbnepjakjmnadaagreat", sum := "81535605f1241e3a4987c66518afa5740c675fc06de6381095c47a0da70ce3dd", func := "cabotage/cabotagelaw01.TermCanons", spec := "termCanons", unfollowed := true, recurses := true, loops := true, apart := false }
def TermCanonsSaid : Prop := termCanonsRow.holds Tryz.pinned (OpenSpec.ofChange termCanonsSpec)

/-- ITS FALSE NEIGHBOUR: 'it returns false'. Refute it at one input. -/
def termCanonsWrong : ChangeSpec := { name := "termCanons", fn := fun _ => fun
  | [d] => { results := [.lit (.bool false)], args := [d] }
  | _ => none }
def TermCanonsWrongFalsely : Prop := termCanonsRow.holds Tryz.pinned (OpenSpec.ofChange termCanonsWrong)

/-- 'cabotagelaw01.TermParts': WHATEVER THE INPUT: true; the input reads as it did. -/
def termPartsSpec : ChangeSpec := { name := "termParts", fn := fun _ => fun
  | [d1, d2] => { results := [.lit (.bool true)], args := [d1, d2] }
  | _ => none }
def termPartsRow : OpenClaim := { program := "ytbnepjakjmnadaagreat", sum := "81535605f1241e3a4987c66518afa5740c675fc06de6381095c47a0da70ce3dd", func := "cabotage/cabotagelaw01.TermParts", spec := "termParts", unfollowed := true, recurses := true, loops := true, apart := false }
def TermPartsSaid : Prop := termPartsRow.holds Tryz.pinned (OpenSpec.ofChange termPartsSpec)

/-- ITS FALSE NEIGHBOUR: 'it returns false'. Refute it at one input. -/
def termPartsWrong : ChangeSpec := { name := "termParts", fn := fun _ => fun
  | [d1, d2] => { results := [.lit (.bool false)], args := [d1, d2] }
  | _ => none }
def TermPartsWrongFalsely : Prop := termPartsRow.holds Tryz.pinned (OpenSpec.ofChange termPartsWrong)

/- THE SECOND FORM. 'bulk': how many values and letters a reading holds, each counted each time it is reached (what is shared counts as often as it is met; a slice's spare places count too). A statement '..UptoSaid' is the law's where the arguments, and the package variables that the reading takes, are together of bulk at most 1048576: NARROWER than '..Said'. Prove '..Said' where nothing that the law and all that it calls make is longer than what came in: it says more and counts as full. Else prove '..UptoSaid'. A law counts once. -/
mutual
def uptoBulk {H : Type} : DataW H → Nat
  | .lit (.string bytes) => bytes.length + 1
  | .lit _ => 1
  | .nil => 1
  | .ptr d => uptoBulk d + 1
  | .slice elems spare => uptoBulkAll elems + uptoBulkAll spare + 1
  | .agg parts => uptoBulkAll parts + 1
  | .iface _ d => uptoBulk d + 1
  | .map entries => uptoBulkEntries entries + 1
  | .held _ => 1
def uptoBulkAll {H : Type} : List (DataW H) → Nat
  | [] => 0
  | d :: r => uptoBulk d + uptoBulkAll r
def uptoBulkEntries {H : Type} : List (Lit × DataW H) → Nat
  | [] => 0
  | x :: r => uptoBulkEntry x + uptoBulkEntries r
def uptoBulkEntry {H : Type} : Lit × DataW H → Nat
  | (.string bytes, d) => bytes.length + uptoBulk d + 1
  | (_, d) => uptoBulk d + 1
 end
def uptoSmall : (H : Type) → List (DataW H) → Bool := fun _ ds => decide (uptoBulkAll ds ≤ 1048576)
def OpenSpec.upto (s : _root_.Go.ChangeSpec) : _root_.Go.OpenSpec := { _root_.Go.OpenSpec.ofChange s with cond := some uptoSmall }

/-- 'cabotagelaw01.TermNames', WHERE WHAT IT READS IS OF BULK AT MOST 1048576: true; the input reads as it did. -/
def termNamesUptoRow : OpenClaim := { program := "ytbnepjakjmnadaagreat", sum := "81535605f1241e3a4987c66518afa5740c675fc06de6381095c47a0da70ce3dd", func := "cabotage/cabotagelaw01.TermNames", spec := "termNames", unfollowed := true, recurses := true, apart := false, narrowed := true }
def TermNamesUptoSaid : Prop := termNamesUptoRow.holds Tryz.pinned (OpenSpec.upto termNamesSpec)

/-- 'cabotagelaw01.TermChecks', WHERE WHAT IT READS IS OF BULK AT MOST 1048576: true; the input reads as it did. -/
def termChecksUptoRow : OpenClaim := { program := "ytbnepjakjmnadaagreat", sum := "81535605f1241e3a4987c66518afa5740c675fc06de6381095c47a0da70ce3dd", func := "cabotage/cabotagelaw01.TermChecks", spec := "termChecks", unfollowed := true, recurses := true, loops := true, apart := false, narrowed := true }
def TermChecksUptoSaid : Prop := termChecksUptoRow.holds Tryz.pinned (OpenSpec.upto termChecksSpec)

/-- 'cabotagelaw01.TermFrees', WHERE WHAT IT READS IS OF BULK AT MOST 1048576: true; the input reads as it did. -/
def termFreesUptoRow : OpenClaim := { program := "ytbnepjakjmnadaagreat", sum := "81535605f1241e3a4987c66518afa5740c675fc06de6381095c47a0da70ce3dd", func := "cabotage/cabotagelaw01.TermFrees", spec := "termFrees", unfollowed := true, recurses := true, loops := true, apart := false, narrowed := true }
def TermFreesUptoSaid : Prop := termFreesUptoRow.holds Tryz.pinned (OpenSpec.upto termFreesSpec)

/-- 'cabotagelaw01.TermPuts', WHERE WHAT IT READS IS OF BULK AT MOST 1048576: true; the input reads as it did. -/
def termPutsUptoRow : OpenClaim := { program := "ytbnepjakjmnadaagreat", sum := "81535605f1241e3a4987c66518afa5740c675fc06de6381095c47a0da70ce3dd", func := "cabotage/cabotagelaw01.TermPuts", spec := "termPuts", unfollowed := true, recurses := true, loops := true, apart := false, narrowed := true }
def TermPutsUptoSaid : Prop := termPutsUptoRow.holds Tryz.pinned (OpenSpec.upto termPutsSpec)

/-- 'cabotagelaw01.TermFreePut', WHERE WHAT IT READS IS OF BULK AT MOST 1048576: true; the input reads as it did. -/
def termFreePutUptoRow : OpenClaim := { program := "ytbnepjakjmnadaagreat", sum := "81535605f1241e3a4987c66518afa5740c675fc06de6381095c47a0da70ce3dd", func := "cabotage/cabotagelaw01.TermFreePut", spec := "termFreePut", unfollowed := true, recurses := true, loops := true, apart := false, narrowed := true }
def TermFreePutUptoSaid : Prop := termFreePutUptoRow.holds Tryz.pinned (OpenSpec.upto termFreePutSpec)

/-- 'cabotagelaw01.TermLayouts', WHERE WHAT IT READS IS OF BULK AT MOST 1048576: true; the input reads as it did. -/
def termLayoutsUptoRow : OpenClaim := { program := "ytbnepjakjmnadaagreat", sum := "81535605f1241e3a4987c66518afa5740c675fc06de6381095c47a0da70ce3dd", func := "cabotage/cabotagelaw01.TermLayouts", spec := "termLayouts", unfollowed := true, recurses := true, loops := true, apart := false, narrowed := true }
def TermLayoutsUptoSaid : Prop := termLayoutsUptoRow.holds Tryz.pinned (OpenSpec.upto termLayoutsSpec)

/-- 'cabotagelaw01.TermSubsts', WHERE WHAT IT READS IS OF BULK AT MOST 1048576: true; the input reads as it did. -/
def termSubstsUptoRow : OpenClaim := { program := "ytbnepjakjmnadaagreat", sum := "81535605f1241e3a4987c66518afa5740c675fc06de6381095c47a0da70ce3dd", func := "cabotage/cabotagelaw01.TermSubsts", spec := "termSubsts", unfollowed := true, recurses := true, loops := true, apart := false, narrowed := true }
def TermSubstsUptoSaid : Prop := termSubstsUptoRow.holds Tryz.pinned (OpenSpec.upto termSubstsSpec)

/-- 'cabotagelaw01.TermAlikes', WHERE WHAT IT READS IS OF BULK AT MOST 1048576: true; the input reads as it did. -/
def termAlikesUptoRow : OpenClaim := { program := "ytbnepjakjmnadaagreat", sum := "81535605f1241e3a4987c66518afa5740c675fc06de6381095c47a0da70ce3dd", func := "cabotage/cabotagelaw01.TermAlikes", spec := "termAlikes", unfollowed := true, recurses := true, loops := true, apart := false, narrowed := true }
def TermAlikesUptoSaid : Prop := termAlikesUptoRow.holds Tryz.pinned (OpenSpec.upto termAlikesSpec)

/-- 'cabotagelaw01.TermCanons', WHERE WHAT IT READS IS OF BULK AT MOST 1048576: true; the input reads as it did. -/
def termCanonsUptoRow : OpenClaim := { program := "ytbnepjakjmnadaagreat", sum := "81535605f1241e3a4987c66518afa5740c675fc06de6381095c47a0da70ce3dd", func := "cabotage/cabotagelaw01.TermCanons", spec := "termCanons", unfollowed := true, recurses := true, loops := true, apart := false, narrowed := true }
def TermCanonsUptoSaid : Prop := termCanonsUptoRow.holds Tryz.pinned (OpenSpec.upto termCanonsSpec)

/-- 'cabotagelaw01.TermParts', WHERE WHAT IT READS IS OF BULK AT MOST 1048576: true; the input reads as it did. -/
def termPartsUptoRow : OpenClaim := { program := "ytbnepjakjmnadaagreat", sum := "81535605f1241e3a4987c66518afa5740c675fc06de6381095c47a0da70ce3dd", func := "cabotage/cabotagelaw01.TermParts", spec := "termParts", unfollowed := true, recurses := true, loops := true, apart := false, narrowed := true }
def TermPartsUptoSaid : Prop := termPartsUptoRow.holds Tryz.pinned (OpenSpec.upto termPartsSpec)

end Rows
end Go.Proofs.YtbnepjakjmnadaaGreat
