/-
  No cell of these rows narrows 'for every input' (looked for: loops, veiled, ifaces, maps, wideKeys, modest, calm, conditions, laid).
  DERIVED. THE GIVEN ROWS OF THIS SEAT. 11 by the template 'for every input the law returns true; each argument reads behind the call as it read before'; 0 by the template 'total and deterministic' (their statements: YtbmbbcaaimehkaaGreatTotals.lean).
  GIVEN WITH THE SEED: the statements are not yours to turn. If you find one false, say at which input.
  Laid BY PROGRAM, IN A SANDBOX (cutbox-rows.mjs): the forced cells as the released guide's own fill.sh prints them over the translation d7b40645fb1530f7… (all of the seat's roots in one cut). By AI agents, Wed Nov 11 2026. No macro, syntax, notation, axiom, sorry.
-/
import Derived.Test.YtbmbbcaaimehkaaGreatChecked
import GoSem.Claim
import GoSem.ClaimJoined
import GoSem.ClaimMapViews
import Derived.JoinedTies
import Derived.KernelRfl
namespace Go.Proofs.YtbmbbcaaimehkaaGreat
/- THE CELL 'sum', in the pinned program and in every row, IS THE sha256 OF THE DUMP (.gsa) THAT YtbmbbcaaimehkaaGreatProg.lean LOADS. Nothing in Lean hashes anything: it is a label: what it is worth is what the hold of that sum in a sandbox is worth. -/
noncomputable def Tryz.pinned : Pinned := { name := "ytbmbbcaaimehkaagreat", sum := "d7b40645fb1530f7433e8b40a2f42dcc21eab68e54a8759a00db1145553eee5b", checked := Tryz.checked }
namespace Rows
def none {H : Type} : Left H := { results := [], args := [] }

/-- 'cabotagelaw14.FerryFirsts': WHATEVER THE INPUT: true; the input reads as it did. -/
def ferryFirstsSpec : ChangeSpec := { name := "ferryFirsts", fn := fun _ => fun
  | [d1, d2] => { results := [.lit (.bool true)], args := [d1, d2] }
  | _ => none }
def ferryFirstsRow : OpenClaim := { program := "ytbmbbcaaimehkaagreat", sum := "d7b40645fb1530f7433e8b40a2f42dcc21eab68e54a8759a00db1145553eee5b", func := "cabotage/cabotagelaw14.FerryFirsts", spec := "ferryFirsts", unfollowed := true, recurses := true, apart := false }
def FerryFirstsSaid : Prop := ferryFirstsRow.holds Tryz.pinned (OpenSpec.ofChange ferryFirstsSpec)

/-- ITS FALSE NEIGHBOUR: 'it returns false'. Refute it at one input. -/
def ferryFirstsWrong : ChangeSpec := { name := "ferryFirsts", fn := fun _ => fun
  | [d1, d2] => { results := [.lit (.bool false)], args := [d1, d2] }
  | _ => none }
def FerryFirstsWrongFalsely : Prop := ferryFirstsRow.holds Tryz.pinned (OpenSpec.ofChange ferryFirstsWrong)

/-- 'cabotagelaw14.FerryDoes': WHATEVER THE INPUT: true; the input reads as it did. -/
def ferryDoesSpec : ChangeSpec := { name := "ferryDoes", fn := fun _ => fun
  | [d1, d2] => { results := [.lit (.bool true)], args := [d1, d2] }
  | _ => none }
def ferryDoesRow : OpenClaim := { program := "ytbmbbcaaimehkaagreat", sum := "d7b40645fb1530f7433e8b40a2f42dcc21eab68e54a8759a00db1145553eee5b", func := "cabotage/cabotagelaw14.FerryDoes", spec := "ferryDoes", unfollowed := true, recurses := true, apart := false }
def FerryDoesSaid : Prop := ferryDoesRow.holds Tryz.pinned (OpenSpec.ofChange ferryDoesSpec)

/-- ITS FALSE NEIGHBOUR: 'it returns false'. Refute it at one input. -/
def ferryDoesWrong : ChangeSpec := { name := "ferryDoes", fn := fun _ => fun
  | [d1, d2] => { results := [.lit (.bool false)], args := [d1, d2] }
  | _ => none }
def FerryDoesWrongFalsely : Prop := ferryDoesRow.holds Tryz.pinned (OpenSpec.ofChange ferryDoesWrong)

/-- 'cabotagelaw14.FerryPlays': WHATEVER THE INPUT: true; the input reads as it did. -/
def ferryPlaysSpec : ChangeSpec := { name := "ferryPlays", fn := fun _ => fun
  | [d1, d2] => { results := [.lit (.bool true)], args := [d1, d2] }
  | _ => none }
def ferryPlaysRow : OpenClaim := { program := "ytbmbbcaaimehkaagreat", sum := "d7b40645fb1530f7433e8b40a2f42dcc21eab68e54a8759a00db1145553eee5b", func := "cabotage/cabotagelaw14.FerryPlays", spec := "ferryPlays", unfollowed := true, recurses := true, apart := false }
def FerryPlaysSaid : Prop := ferryPlaysRow.holds Tryz.pinned (OpenSpec.ofChange ferryPlaysSpec)

/-- ITS FALSE NEIGHBOUR: 'it returns false'. Refute it at one input. -/
def ferryPlaysWrong : ChangeSpec := { name := "ferryPlays", fn := fun _ => fun
  | [d1, d2] => { results := [.lit (.bool false)], args := [d1, d2] }
  | _ => none }
def FerryPlaysWrongFalsely : Prop := ferryPlaysRow.holds Tryz.pinned (OpenSpec.ofChange ferryPlaysWrong)

/-- 'cabotagelaw14.FerryKeeps': WHATEVER THE INPUT: true; the input reads as it did. -/
def ferryKeepsSpec : ChangeSpec := { name := "ferryKeeps", fn := fun _ => fun
  | [d1, d2, d3] => { results := [.lit (.bool true)], args := [d1, d2, d3] }
  | _ => none }
def ferryKeepsRow : OpenClaim := { program := "ytbmbbcaaimehkaagreat", sum := "d7b40645fb1530f7433e8b40a2f42dcc21eab68e54a8759a00db1145553eee5b", func := "cabotage/cabotagelaw14.FerryKeeps", spec := "ferryKeeps", unfollowed := true, recurses := true, apart := false }
def FerryKeepsSaid : Prop := ferryKeepsRow.holds Tryz.pinned (OpenSpec.ofChange ferryKeepsSpec)

/-- ITS FALSE NEIGHBOUR: 'it returns false'. Refute it at one input. -/
def ferryKeepsWrong : ChangeSpec := { name := "ferryKeeps", fn := fun _ => fun
  | [d1, d2, d3] => { results := [.lit (.bool false)], args := [d1, d2, d3] }
  | _ => none }
def FerryKeepsWrongFalsely : Prop := ferryKeepsRow.holds Tryz.pinned (OpenSpec.ofChange ferryKeepsWrong)

/-- 'cabotagelaw14.FerryHops': WHATEVER THE INPUT: true; the input reads as it did. -/
def ferryHopsSpec : ChangeSpec := { name := "ferryHops", fn := fun _ => fun
  | [d1, d2] => { results := [.lit (.bool true)], args := [d1, d2] }
  | _ => none }
def ferryHopsRow : OpenClaim := { program := "ytbmbbcaaimehkaagreat", sum := "d7b40645fb1530f7433e8b40a2f42dcc21eab68e54a8759a00db1145553eee5b", func := "cabotage/cabotagelaw14.FerryHops", spec := "ferryHops", unfollowed := true, recurses := true, apart := false }
def FerryHopsSaid : Prop := ferryHopsRow.holds Tryz.pinned (OpenSpec.ofChange ferryHopsSpec)

/-- ITS FALSE NEIGHBOUR: 'it returns false'. Refute it at one input. -/
def ferryHopsWrong : ChangeSpec := { name := "ferryHops", fn := fun _ => fun
  | [d1, d2] => { results := [.lit (.bool false)], args := [d1, d2] }
  | _ => none }
def FerryHopsWrongFalsely : Prop := ferryHopsRow.holds Tryz.pinned (OpenSpec.ofChange ferryHopsWrong)

/-- 'cabotagelaw14.FerryShort': WHATEVER THE INPUT: true; the input reads as it did. -/
def ferryShortSpec : ChangeSpec := { name := "ferryShort", fn := fun _ => fun
  | [d1, d2, d3, d4] => { results := [.lit (.bool true)], args := [d1, d2, d3, d4] }
  | _ => none }
def ferryShortRow : OpenClaim := { program := "ytbmbbcaaimehkaagreat", sum := "d7b40645fb1530f7433e8b40a2f42dcc21eab68e54a8759a00db1145553eee5b", func := "cabotage/cabotagelaw14.FerryShort", spec := "ferryShort", unfollowed := true, recurses := true, apart := false }
def FerryShortSaid : Prop := ferryShortRow.holds Tryz.pinned (OpenSpec.ofChange ferryShortSpec)

/-- ITS FALSE NEIGHBOUR: 'it returns false'. Refute it at one input. -/
def ferryShortWrong : ChangeSpec := { name := "ferryShort", fn := fun _ => fun
  | [d1, d2, d3, d4] => { results := [.lit (.bool false)], args := [d1, d2, d3, d4] }
  | _ => none }
def FerryShortWrongFalsely : Prop := ferryShortRow.holds Tryz.pinned (OpenSpec.ofChange ferryShortWrong)

/-- 'cabotagelaw14.FerryTogether': WHATEVER THE INPUT: true; the input reads as it did. -/
def ferryTogetherSpec : ChangeSpec := { name := "ferryTogether", fn := fun _ => fun
  | [d1, d2] => { results := [.lit (.bool true)], args := [d1, d2] }
  | _ => none }
def ferryTogetherRow : OpenClaim := { program := "ytbmbbcaaimehkaagreat", sum := "d7b40645fb1530f7433e8b40a2f42dcc21eab68e54a8759a00db1145553eee5b", func := "cabotage/cabotagelaw14.FerryTogether", spec := "ferryTogether", unfollowed := true, recurses := true, apart := false }
def FerryTogetherSaid : Prop := ferryTogetherRow.holds Tryz.pinned (OpenSpec.ofChange ferryTogetherSpec)

/-- ITS FALSE NEIGHBOUR: 'it returns false'. Refute it at one input. -/
def ferryTogetherWrong : ChangeSpec := { name := "ferryTogether", fn := fun _ => fun
  | [d1, d2] => { results := [.lit (.bool false)], args := [d1, d2] }
  | _ => none }
def FerryTogetherWrongFalsely : Prop := ferryTogetherRow.holds Tryz.pinned (OpenSpec.ofChange ferryTogetherWrong)

/-- 'cabotagelaw14.FerryEnds': WHATEVER THE INPUT: true; the input reads as it did. -/
def ferryEndsSpec : ChangeSpec := { name := "ferryEnds", fn := fun _ => fun
  | [d1, d2, d3] => { results := [.lit (.bool true)], args := [d1, d2, d3] }
  | _ => none }
def ferryEndsRow : OpenClaim := { program := "ytbmbbcaaimehkaagreat", sum := "d7b40645fb1530f7433e8b40a2f42dcc21eab68e54a8759a00db1145553eee5b", func := "cabotage/cabotagelaw14.FerryEnds", spec := "ferryEnds", unfollowed := true, recurses := true, apart := false }
def FerryEndsSaid : Prop := ferryEndsRow.holds Tryz.pinned (OpenSpec.ofChange ferryEndsSpec)

/-- ITS FALSE NEIGHBOUR: 'it returns false'. Refute it at one input. -/
def ferryEndsWrong : ChangeSpec := { name := "ferryEnds", fn := fun _ => fun
  | [d1, d2, d3] => { results := [.lit (.bool false)], args := [d1, d2, d3] }
  | _ => none }
def FerryEndsWrongFalsely : Prop := ferryEndsRow.holds Tryz.pinned (OpenSpec.ofChange ferryEndsWrong)

/-- 'cabotagelaw14.FerryChecks': WHATEVER THE INPUT: true; the input reads as it did. -/
def ferryChecksSpec : ChangeSpec := { name := "ferryChecks", fn := fun _ => fun
  | [d1, d2, d3] => { results := [.lit (.bool true)], args := [d1, d2, d3] }
  | _ => none }
def ferryChecksRow : OpenClaim := { program := "ytbmbbcaaimehkaagreat", sum := "d7b40645fb1530f7433e8b40a2f42dcc21eab68e54a8759a00db1145553eee5b", func := "cabotage/cabotagelaw14.FerryChecks", spec := "ferryChecks", unfollowed := true, recurses := true, apart := false }
def FerryChecksSaid : Prop := ferryChecksRow.holds Tryz.pinned (OpenSpec.ofChange ferryChecksSpec)

/-- ITS FALSE NEIGHBOUR: 'it returns false'. Refute it at one input. -/
def ferryChecksWrong : ChangeSpec := { name := "ferryChecks", fn := fun _ => fun
  | [d1, d2, d3] => { results := [.lit (.bool false)], args := [d1, d2, d3] }
  | _ => none }
def FerryChecksWrongFalsely : Prop := ferryChecksRow.holds Tryz.pinned (OpenSpec.ofChange ferryChecksWrong)

/-- 'cabotagelaw14.FerryDrains': WHATEVER THE INPUT: true; the input reads as it did. -/
def ferryDrainsSpec : ChangeSpec := { name := "ferryDrains", fn := fun _ => fun
  | [d1, d2] => { results := [.lit (.bool true)], args := [d1, d2] }
  | _ => none }
def ferryDrainsRow : OpenClaim := { program := "ytbmbbcaaimehkaagreat", sum := "d7b40645fb1530f7433e8b40a2f42dcc21eab68e54a8759a00db1145553eee5b", func := "cabotage/cabotagelaw14.FerryDrains", spec := "ferryDrains", unfollowed := true, recurses := true, apart := false }
def FerryDrainsSaid : Prop := ferryDrainsRow.holds Tryz.pinned (OpenSpec.ofChange ferryDrainsSpec)

/-- ITS FALSE NEIGHBOUR: 'it returns false'. Refute it at one input. -/
def ferryDrainsWrong : ChangeSpec := { name := "ferryDrains", fn := fun _ => fun
  | [d1, d2] => { results := [.lit (.bool false)], args := [d1, d2] }
  | _ => none }
def FerryDrainsWrongFalsely : Prop := ferryDrainsRow.holds Tryz.pinned (OpenSpec.ofChange ferryDrainsWrong)

/-- 'cabotagelaw14.FerryOrders': WHATEVER THE INPUT: true; the input reads as it did. -/
def ferryOrdersSpec : ChangeSpec := { name := "ferryOrders", fn := fun _ => fun
  | [d1, d2, d3] => { results := [.lit (.bool true)], args := [d1, d2, d3] }
  | _ => none }
def ferryOrdersRow : OpenClaim := { program := "ytbmbbcaaimehkaagreat", sum := "d7b40645fb1530f7433e8b40a2f42dcc21eab68e54a8759a00db1145553eee5b", func := "cabotage/cabotagelaw14.FerryOrders", spec := "ferryOrders", unfollowed := true, recurses := true, apart := false }
def FerryOrdersSaid : Prop := ferryOrdersRow.holds Tryz.pinned (OpenSpec.ofChange ferryOrdersSpec)

/-- ITS FALSE NEIGHBOUR: 'it returns false'. Refute it at one input. -/
def ferryOrdersWrong : ChangeSpec := { name := "ferryOrders", fn := fun _ => fun
  | [d1, d2, d3] => { results := [.lit (.bool false)], args := [d1, d2, d3] }
  | _ => none }
def FerryOrdersWrongFalsely : Prop := ferryOrdersRow.holds Tryz.pinned (OpenSpec.ofChange ferryOrdersWrong)

/- THE SECOND FORM. 'bulk': how many values and letters a reading holds, each counted each time it is reached (what is shared counts as often as it is met; a slice's spare places count too). A statement '..UptoSaid' is the law's where the arguments, and the package variables that the reading takes, are together of bulk at most 1048576: NARROWER than '..Said'. Prove '..Said' where nothing that the law and all that it calls make is longer than what came in: it says more and counts as full. Else prove '..UptoSaid'. A law counts once. -/
mutual
def uptoBulk {H : Type} : DataW H → Nat
  | .lit (.string bytes) => bytes.length + 1
  | .lit _ => 1
  | .nil => 1
  | .ptr d => uptoBulk d + 1
  | .slice elems spare => uptoBulkAll elems + uptoBulkAll spare + 1
  | .agg parts => uptoBulkAll parts + 1
  | .iface _ d => uptoBulk d + 1
  | .map entries => uptoBulkEntries entries + 1
  | .held _ => 1
def uptoBulkAll {H : Type} : List (DataW H) → Nat
  | [] => 0
  | d :: r => uptoBulk d + uptoBulkAll r
def uptoBulkEntries {H : Type} : List (Lit × DataW H) → Nat
  | [] => 0
  | x :: r => uptoBulkEntry x + uptoBulkEntries r
def uptoBulkEntry {H : Type} : Lit × DataW H → Nat
  | (.string bytes, d) => bytes.length + uptoBulk d + 1
  | (_, d) => uptoBulk d + 1
 end
def uptoSmall : (H : Type) → List (DataW H) → Bool := fun _ ds => decide (uptoBulkAll ds ≤ 1048576)
def OpenSpec.upto (s : _root_.Go.ChangeSpec) : _root_.Go.OpenSpec := { _root_.Go.OpenSpec.ofChange s with cond := some uptoSmall }

/-- 'cabotagelaw14.FerryFirsts', WHERE WHAT IT READS IS OF BULK AT MOST 1048576: true; the input reads as it did. -/
def ferryFirstsUptoRow : OpenClaim := { program := "ytbmbbcaaimehkaagreat", sum := "d7b40645fb1530f7433e8b40a2f42dcc21eab68e54a8759a00db1145553eee5b", func := "cabotage/cabotagelaw14.FerryFirsts", spec := "ferryFirsts", unfollowed := true, recurses := true, apart := false, narrowed := true }
def FerryFirstsUptoSaid : Prop := ferryFirstsUptoRow.holds Tryz.pinned (OpenSpec.upto ferryFirstsSpec)

/-- 'cabotagelaw14.FerryDoes', WHERE WHAT IT READS IS OF BULK AT MOST 1048576: true; the input reads as it did. -/
def ferryDoesUptoRow : OpenClaim := { program := "ytbmbbcaaimehkaagreat", sum := "d7b40645fb1530f7433e8b40a2f42dcc21eab68e54a8759a00db1145553eee5b", func := "cabotage/cabotagelaw14.FerryDoes", spec := "ferryDoes", unfollowed := true, recurses := true, apart := false, narrowed := true }
def FerryDoesUptoSaid : Prop := ferryDoesUptoRow.holds Tryz.pinned (OpenSpec.upto ferryDoesSpec)

/-- 'cabotagelaw14.FerryPlays', WHERE WHAT IT READS IS OF BULK AT MOST 1048576: true; the input reads as it did. -/
def ferryPlaysUptoRow : OpenClaim := { program := "ytbmbbcaaimehkaagreat", sum := "d7b40645fb1530f7433e8b40a2f42dcc21eab68e54a8759a00db1145553eee5b", func := "cabotage/cabotagelaw14.FerryPlays", spec := "ferryPlays", unfollowed := true, recurses := true, apart := false, narrowed := true }
def FerryPlaysUptoSaid : Prop := ferryPlaysUptoRow.holds Tryz.pinned (OpenSpec.upto ferryPlaysSpec)

/-- 'cabotagelaw14.FerryKeeps', WHERE WHAT IT READS IS OF BULK AT MOST 1048576: true; the input reads as it did. -/
def ferryKeepsUptoRow : OpenClaim := { program := "ytbmbbcaaimehkaagreat", sum := "d7b40645fb1530f7433e8b40a2f42dcc21eab68e54a8759a00db1145553eee5b", func := "cabotage/cabotagelaw14.FerryKeeps", spec := "ferryKeeps", unfollowed := true, recurses := true, apart := false, narrowed := true }
def FerryKeepsUptoSaid : Prop := ferryKeepsUptoRow.holds Tryz.pinned (OpenSpec.upto ferryKeepsSpec)

/-- 'cabotagelaw14.FerryHops', WHERE WHAT IT READS IS OF BULK AT MOST 1048576: true; the input reads as it did. -/
def ferryHopsUptoRow : OpenClaim := { program := "ytbmbbcaaimehkaagreat", sum := "d7b40645fb1530f7433e8b40a2f42dcc21eab68e54a8759a00db1145553eee5b", func := "cabotage/cabotagelaw14.FerryHops", spec := "ferryHops", unfollowed := true, recurses := true, apart := false, narrowed := true }
def FerryHopsUptoSaid : Prop := ferryHopsUptoRow.holds Tryz.pinned (OpenSpec.upto ferryHopsSpec)

/-- 'cabotagelaw14.FerryShort', WHERE WHAT IT READS IS OF BULK AT MOST 1048576: true; the input reads as it did. -/
def ferryShortUptoRow : OpenClaim := { program := "ytbmbbcaaimehkaagreat", sum := "d7b40645fb1530f7433e8b40a2f42dcc21eab68e54a8759a00db1145553eee5b", func := "cabotage/cabotagelaw14.FerryShort", spec := "ferryShort", unfollowed := true, recurses := true, apart := false, narrowed := true }
def FerryShortUptoSaid : Prop := ferryShortUptoRow.holds Tryz.pinned (OpenSpec.upto ferryShortSpec)

/-- 'cabotagelaw14.FerryTogether', WHERE WHAT IT READS IS OF BULK AT MOST 1048576: true; the input reads as it did. -/
def ferryTogetherUptoRow : OpenClaim := { program := "ytbmbbcaaimehkaagreat", sum := "d7b40645fb1530f7433e8b40a2f42dcc21eab68e54a8759a00db1145553eee5b", func := "cabotage/cabotagelaw14.FerryTogether", spec := "ferryTogether", unfollowed := true, recurses := true, apart := false, narrowed := true }
def FerryTogetherUptoSaid : Prop := ferryTogetherUptoRow.holds Tryz.pinned (OpenSpec.upto ferryTogetherSpec)

/-- 'cabotagelaw14.FerryEnds', WHERE WHAT IT READS IS OF BULK AT MOST 1048576: true; the input reads as it did. -/
def ferryEndsUptoRow : OpenClaim := { program := "ytbmbbcaaimehkaagreat", sum := "d7b40645fb1530f7433e8b40a2f42dcc21eab68e54a8759a00db1145553eee5b", func := "cabotage/cabotagelaw14.FerryEnds", spec := "ferryEnds", unfollowed := true, recurses := true, apart := false, narrowed := true }
def FerryEndsUptoSaid : Prop := ferryEndsUptoRow.holds Tryz.pinned (OpenSpec.upto ferryEndsSpec)

/-- 'cabotagelaw14.FerryChecks', WHERE WHAT IT READS IS OF BULK AT MOST 1048576: true; the input reads as it did. -/
def ferryChecksUptoRow : OpenClaim := { program := "ytbmbbcaaimehkaagreat", sum := "d7b40645fb1530f7433e8b40a2f42dcc21eab68e54a8759a00db1145553eee5b", func := "cabotage/cabotagelaw14.FerryChecks", spec := "ferryChecks", unfollowed := true, recurses := true, apart := false, narrowed := true }
def FerryChecksUptoSaid : Prop := ferryChecksUptoRow.holds Tryz.pinned (OpenSpec.upto ferryChecksSpec)

/-- 'cabotagelaw14.FerryDrains', WHERE WHAT IT READS IS OF BULK AT MOST 1048576: true; the input reads as it did. -/
def ferryDrainsUptoRow : OpenClaim := { program := "ytbmbbcaaimehkaagreat", sum := "d7b40645fb1530f7433e8b40a2f42dcc21eab68e54a8759a00db1145553eee5b", func := "cabotage/cabotagelaw14.FerryDrains", spec := "ferryDrains", unfollowed := true, recurses := true, apart := false, narrowed := true }
def FerryDrainsUptoSaid : Prop := ferryDrainsUptoRow.holds Tryz.pinned (OpenSpec.upto ferryDrainsSpec)

/-- 'cabotagelaw14.FerryOrders', WHERE WHAT IT READS IS OF BULK AT MOST 1048576: true; the input reads as it did. -/
def ferryOrdersUptoRow : OpenClaim := { program := "ytbmbbcaaimehkaagreat", sum := "d7b40645fb1530f7433e8b40a2f42dcc21eab68e54a8759a00db1145553eee5b", func := "cabotage/cabotagelaw14.FerryOrders", spec := "ferryOrders", unfollowed := true, recurses := true, apart := false, narrowed := true }
def FerryOrdersUptoSaid : Prop := ferryOrdersUptoRow.holds Tryz.pinned (OpenSpec.upto ferryOrdersSpec)

end Rows
end Go.Proofs.YtbmbbcaaimehkaaGreat
