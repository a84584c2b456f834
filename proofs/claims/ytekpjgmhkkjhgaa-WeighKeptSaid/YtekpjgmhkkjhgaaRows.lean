/-
  No cell of these rows narrows 'for every input' (looked for: loops, veiled, ifaces, maps, wideKeys, modest, calm, conditions, laid).
  DERIVED. THE GIVEN ROWS OF THIS SEAT. 10 by the template 'for every input the law returns true; each argument reads behind the call as it read before'; 0 by the template 'total and deterministic' (their statements: YtekpjgmhkkjhgaaTotals.lean).
  GIVEN WITH THE SEED: the statements are not yours to turn. If you find one false, say at which input.
  Laid BY PROGRAM, IN A SANDBOX (cutbox-rows.mjs): the forced cells as the released guide's own fill.sh prints them over the translation 5ac777acc0f8e4d7… (all of the seat's roots in one cut). By AI agents, Wed Nov 11 2026. No macro, syntax, notation, axiom, sorry.
-/
import Derived.Test.YtekpjgmhkkjhgaaChecked
import GoSem.Claim
import GoSem.ClaimJoined
import GoSem.ClaimMapViews
import Derived.JoinedTies
import Derived.KernelRfl
namespace Go.Proofs.Ytekpjgmhkkjhgaa
/- THE CELL 'sum', in the pinned program and in every row, IS THE sha256 OF THE DUMP (.gsa) THAT YtekpjgmhkkjhgaaProg.lean LOADS. Nothing in Lean hashes anything: it is a label: what it is worth is what the hold of that sum in a sandbox is worth. -/
noncomputable def Try.pinned : Pinned := { name := "ytekpjgmhkkjhgaa", sum := "5ac777acc0f8e4d79bfe11222521d872e21750ddc1679589ccafb7d8bb87d549", checked := Try.checked }
namespace Rows
def none {H : Type} : Left H := { results := [], args := [] }

/-- 'cabotagelaw15.WeighDoes': WHATEVER THE INPUT: true; the input reads as it did. -/
def weighDoesSpec : ChangeSpec := { name := "weighDoes", fn := fun _ => fun
  | [d1, d2, d3] => { results := [.lit (.bool true)], args := [d1, d2, d3] }
  | _ => none }
def weighDoesRow : OpenClaim := { program := "ytekpjgmhkkjhgaa", sum := "5ac777acc0f8e4d79bfe11222521d872e21750ddc1679589ccafb7d8bb87d549", func := "cabotage/cabotagelaw15.WeighDoes", spec := "weighDoes", unfollowed := true, recurses := true, plainKeys := false, apart := false }
def WeighDoesSaid : Prop := weighDoesRow.holds Try.pinned (OpenSpec.ofChange weighDoesSpec)

/-- ITS FALSE NEIGHBOUR: 'it returns false'. Refute it at one input. -/
def weighDoesWrong : ChangeSpec := { name := "weighDoes", fn := fun _ => fun
  | [d1, d2, d3] => { results := [.lit (.bool false)], args := [d1, d2, d3] }
  | _ => none }
def WeighDoesWrongFalsely : Prop := weighDoesRow.holds Try.pinned (OpenSpec.ofChange weighDoesWrong)

/-- 'cabotagelaw15.WeighPlays': WHATEVER THE INPUT: true; the input reads as it did. -/
def weighPlaysSpec : ChangeSpec := { name := "weighPlays", fn := fun _ => fun
  | [d1, d2] => { results := [.lit (.bool true)], args := [d1, d2] }
  | _ => none }
def weighPlaysRow : OpenClaim := { program := "ytekpjgmhkkjhgaa", sum := "5ac777acc0f8e4d79bfe11222521d872e21750ddc1679589ccafb7d8bb87d549", func := "cabotage/cabotagelaw15.WeighPlays", spec := "weighPlays", unfollowed := true, recurses := true, plainKeys := false, apart := false }
def WeighPlaysSaid : Prop := weighPlaysRow.holds Try.pinned (OpenSpec.ofChange weighPlaysSpec)

/-- ITS FALSE NEIGHBOUR: 'it returns false'. Refute it at one input. -/
def weighPlaysWrong : ChangeSpec := { name := "weighPlays", fn := fun _ => fun
  | [d1, d2] => { results := [.lit (.bool false)], args := [d1, d2] }
  | _ => none }
def WeighPlaysWrongFalsely : Prop := weighPlaysRow.holds Try.pinned (OpenSpec.ofChange weighPlaysWrong)

/-- 'cabotagelaw15.WeighSums': WHATEVER THE INPUT: true; the input reads as it did. -/
def weighSumsSpec : ChangeSpec := { name := "weighSums", fn := fun _ => fun
  | [d1, d2] => { results := [.lit (.bool true)], args := [d1, d2] }
  | _ => none }
def weighSumsRow : OpenClaim := { program := "ytekpjgmhkkjhgaa", sum := "5ac777acc0f8e4d79bfe11222521d872e21750ddc1679589ccafb7d8bb87d549", func := "cabotage/cabotagelaw15.WeighSums", spec := "weighSums", unfollowed := true, recurses := true, plainKeys := false, apart := false }
def WeighSumsSaid : Prop := weighSumsRow.holds Try.pinned (OpenSpec.ofChange weighSumsSpec)

/-- ITS FALSE NEIGHBOUR: 'it returns false'. Refute it at one input. -/
def weighSumsWrong : ChangeSpec := { name := "weighSums", fn := fun _ => fun
  | [d1, d2] => { results := [.lit (.bool false)], args := [d1, d2] }
  | _ => none }
def WeighSumsWrongFalsely : Prop := weighSumsRow.holds Try.pinned (OpenSpec.ofChange weighSumsWrong)

/-- 'cabotagelaw15.WeighKnown': WHATEVER THE INPUT: true; the input reads as it did. -/
def weighKnownSpec : ChangeSpec := { name := "weighKnown", fn := fun _ => fun
  | [] => { results := [.lit (.bool true)], args := [] }
  | _ => none }
def weighKnownRow : OpenClaim := { program := "ytekpjgmhkkjhgaa", sum := "5ac777acc0f8e4d79bfe11222521d872e21750ddc1679589ccafb7d8bb87d549", func := "cabotage/cabotagelaw15.WeighKnown", spec := "weighKnown", unfollowed := true, recurses := true, plainKeys := false, apart := false }
def WeighKnownSaid : Prop := weighKnownRow.holds Try.pinned (OpenSpec.ofChange weighKnownSpec)

/-- ITS FALSE NEIGHBOUR: 'it returns false'. Refute it at one input. -/
def weighKnownWrong : ChangeSpec := { name := "weighKnown", fn := fun _ => fun
  | [] => { results := [.lit (.bool false)], args := [] }
  | _ => none }
def WeighKnownWrongFalsely : Prop := weighKnownRow.holds Try.pinned (OpenSpec.ofChange weighKnownWrong)

/-- 'cabotagelaw15.WeighSafe': WHATEVER THE INPUT: true; the input reads as it did. -/
def weighSafeSpec : ChangeSpec := { name := "weighSafe", fn := fun _ => fun
  | [d1, d2] => { results := [.lit (.bool true)], args := [d1, d2] }
  | _ => none }
def weighSafeRow : OpenClaim := { program := "ytekpjgmhkkjhgaa", sum := "5ac777acc0f8e4d79bfe11222521d872e21750ddc1679589ccafb7d8bb87d549", func := "cabotage/cabotagelaw15.WeighSafe", spec := "weighSafe", unfollowed := true, recurses := true, plainKeys := false, apart := false }
def WeighSafeSaid : Prop := weighSafeRow.holds Try.pinned (OpenSpec.ofChange weighSafeSpec)

/-- ITS FALSE NEIGHBOUR: 'it returns false'. Refute it at one input. -/
def weighSafeWrong : ChangeSpec := { name := "weighSafe", fn := fun _ => fun
  | [d1, d2] => { results := [.lit (.bool false)], args := [d1, d2] }
  | _ => none }
def WeighSafeWrongFalsely : Prop := weighSafeRow.holds Try.pinned (OpenSpec.ofChange weighSafeWrong)

/-- 'cabotagelaw15.WeighLast': WHATEVER THE INPUT: true; the input reads as it did. -/
def weighLastSpec : ChangeSpec := { name := "weighLast", fn := fun _ => fun
  | [d1, d2, d3] => { results := [.lit (.bool true)], args := [d1, d2, d3] }
  | _ => none }
def weighLastRow : OpenClaim := { program := "ytekpjgmhkkjhgaa", sum := "5ac777acc0f8e4d79bfe11222521d872e21750ddc1679589ccafb7d8bb87d549", func := "cabotage/cabotagelaw15.WeighLast", spec := "weighLast", unfollowed := true, recurses := true, plainKeys := false, apart := false }
def WeighLastSaid : Prop := weighLastRow.holds Try.pinned (OpenSpec.ofChange weighLastSpec)

/-- ITS FALSE NEIGHBOUR: 'it returns false'. Refute it at one input. -/
def weighLastWrong : ChangeSpec := { name := "weighLast", fn := fun _ => fun
  | [d1, d2, d3] => { results := [.lit (.bool false)], args := [d1, d2, d3] }
  | _ => none }
def WeighLastWrongFalsely : Prop := weighLastRow.holds Try.pinned (OpenSpec.ofChange weighLastWrong)

/-- 'cabotagelaw15.WeighOrder': WHATEVER THE INPUT: true; the input reads as it did. -/
def weighOrderSpec : ChangeSpec := { name := "weighOrder", fn := fun _ => fun
  | [d1, d2, d3, d4] => { results := [.lit (.bool true)], args := [d1, d2, d3, d4] }
  | _ => none }
def weighOrderRow : OpenClaim := { program := "ytekpjgmhkkjhgaa", sum := "5ac777acc0f8e4d79bfe11222521d872e21750ddc1679589ccafb7d8bb87d549", func := "cabotage/cabotagelaw15.WeighOrder", spec := "weighOrder", unfollowed := true, recurses := true, plainKeys := false, apart := false }
def WeighOrderSaid : Prop := weighOrderRow.holds Try.pinned (OpenSpec.ofChange weighOrderSpec)

/-- ITS FALSE NEIGHBOUR: 'it returns false'. Refute it at one input. -/
def weighOrderWrong : ChangeSpec := { name := "weighOrder", fn := fun _ => fun
  | [d1, d2, d3, d4] => { results := [.lit (.bool false)], args := [d1, d2, d3, d4] }
  | _ => none }
def WeighOrderWrongFalsely : Prop := weighOrderRow.holds Try.pinned (OpenSpec.ofChange weighOrderWrong)

/-- 'cabotagelaw15.WeighTravels': WHATEVER THE INPUT: true; the input reads as it did. -/
def weighTravelsSpec : ChangeSpec := { name := "weighTravels", fn := fun _ => fun
  | [d1, d2, d3, d4] => { results := [.lit (.bool true)], args := [d1, d2, d3, d4] }
  | _ => none }
def weighTravelsRow : OpenClaim := { program := "ytekpjgmhkkjhgaa", sum := "5ac777acc0f8e4d79bfe11222521d872e21750ddc1679589ccafb7d8bb87d549", func := "cabotage/cabotagelaw15.WeighTravels", spec := "weighTravels", unfollowed := true, recurses := true, plainKeys := false, apart := false }
def WeighTravelsSaid : Prop := weighTravelsRow.holds Try.pinned (OpenSpec.ofChange weighTravelsSpec)

/-- ITS FALSE NEIGHBOUR: 'it returns false'. Refute it at one input. -/
def weighTravelsWrong : ChangeSpec := { name := "weighTravels", fn := fun _ => fun
  | [d1, d2, d3, d4] => { results := [.lit (.bool false)], args := [d1, d2, d3, d4] }
  | _ => none }
def WeighTravelsWrongFalsely : Prop := weighTravelsRow.holds Try.pinned (OpenSpec.ofChange weighTravelsWrong)

/-- 'cabotagelaw15.WeighKept': WHATEVER THE INPUT: true; the input reads as it did. -/
def weighKeptSpec : ChangeSpec := { name := "weighKept", fn := fun _ => fun
  | [d1, d2] => { results := [.lit (.bool true)], args := [d1, d2] }
  | _ => none }
def weighKeptRow : OpenClaim := { program := "ytekpjgmhkkjhgaa", sum := "5ac777acc0f8e4d79bfe11222521d872e21750ddc1679589ccafb7d8bb87d549", func := "cabotage/cabotagelaw15.WeighKept", spec := "weighKept", unfollowed := true, recurses := true, plainKeys := false, apart := false }
def WeighKeptSaid : Prop := weighKeptRow.holds Try.pinned (OpenSpec.ofChange weighKeptSpec)

/-- ITS FALSE NEIGHBOUR: 'it returns false'. Refute it at one input. -/
def weighKeptWrong : ChangeSpec := { name := "weighKept", fn := fun _ => fun
  | [d1, d2] => { results := [.lit (.bool false)], args := [d1, d2] }
  | _ => none }
def WeighKeptWrongFalsely : Prop := weighKeptRow.holds Try.pinned (OpenSpec.ofChange weighKeptWrong)

/-- 'cabotagelaw15.WeighParts': WHATEVER THE INPUT: true; the input reads as it did. -/
def weighPartsSpec : ChangeSpec := { name := "weighParts", fn := fun _ => fun
  | [d1, d2, d3] => { results := [.lit (.bool true)], args := [d1, d2, d3] }
  | _ => none }
def weighPartsRow : OpenClaim := { program := "ytekpjgmhkkjhgaa", sum := "5ac777acc0f8e4d79bfe11222521d872e21750ddc1679589ccafb7d8bb87d549", func := "cabotage/cabotagelaw15.WeighParts", spec := "weighParts", unfollowed := true, recurses := true, plainKeys := false, apart := false }
def WeighPartsSaid : Prop := weighPartsRow.holds Try.pinned (OpenSpec.ofChange weighPartsSpec)

/-- ITS FALSE NEIGHBOUR: 'it returns false'. Refute it at one input. -/
def weighPartsWrong : ChangeSpec := { name := "weighParts", fn := fun _ => fun
  | [d1, d2, d3] => { results := [.lit (.bool false)], args := [d1, d2, d3] }
  | _ => none }
def WeighPartsWrongFalsely : Prop := weighPartsRow.holds Try.pinned (OpenSpec.ofChange weighPartsWrong)

/- THE SECOND FORM. 'bulk': how many values and letters a reading holds, each counted each time it is reached (what is shared counts as often as it is met; a slice's spare places count too). A statement '..UptoSaid' is the law's where the arguments, and the package variables that the reading takes, are together of bulk at most 1048576: NARROWER than '..Said'. Prove '..Said' where nothing that the law and all that it calls make is longer than what came in: it says more and counts as full. Else prove '..UptoSaid'. A law counts once. -/
mutual
def uptoBulk {H : Type} : DataW H → Nat
  | .lit (.string bytes) => bytes.length + 1
  | .lit _ => 1
  | .nil => 1
  | .ptr d => uptoBulk d + 1
  | .slice elems spare => uptoBulkAll elems + uptoBulkAll spare + 1
  | .agg parts => uptoBulkAll parts + 1
  | .iface _ d => uptoBulk d + 1
  | .map entries => uptoBulkEntries entries + 1
  | .held _ => 1
def uptoBulkAll {H : Type} : List (DataW H) → Nat
  | [] => 0
  | d :: r => uptoBulk d + uptoBulkAll r
def uptoBulkEntries {H : Type} : List (Lit × DataW H) → Nat
  | [] => 0
  | x :: r => uptoBulkEntry x + uptoBulkEntries r
def uptoBulkEntry {H : Type} : Lit × DataW H → Nat
  | (.string bytes, d) => bytes.length + uptoBulk d + 1
  | (_, d) => uptoBulk d + 1
 end
def uptoSmall : (H : Type) → List (DataW H) → Bool := fun _ ds => decide (uptoBulkAll ds ≤ 1048576)
def OpenSpec.upto (s : _root_.Go.ChangeSpec) : _root_.Go.OpenSpec := { _root_.Go.OpenSpec.ofChange s with cond := some uptoSmall }

/-- 'cabotagelaw15.WeighDoes', WHERE WHAT IT READS IS OF BULK AT MOST 1048576: true; the input reads as it did. -/
def weighDoesUptoRow : OpenClaim := { program := "ytekpjgmhkkjhgaa", sum := "5ac777acc0f8e4d79bfe11222521d872e21750ddc1679589ccafb7d8bb87d549", func := "cabotage/cabotagelaw15.WeighDoes", spec := "weighDoes", unfollowed := true, recurses := true, plainKeys := false, apart := false, narrowed := true }
def WeighDoesUptoSaid : Prop := weighDoesUptoRow.holds Try.pinned (OpenSpec.upto weighDoesSpec)

/-- 'cabotagelaw15.WeighPlays', WHERE WHAT IT READS IS OF BULK AT MOST 1048576: true; the input reads as it did. -/
def weighPlaysUptoRow : OpenClaim := { program := "ytekpjgmhkkjhgaa", sum := "5ac777acc0f8e4d79bfe11222521d872e21750ddc1679589ccafb7d8bb87d549", func := "cabotage/cabotagelaw15.WeighPlays", spec := "weighPlays", unfollowed := true, recurses := true, plainKeys := false, apart := false, narrowed := true }
def WeighPlaysUptoSaid : Prop := weighPlaysUptoRow.holds Try.pinned (OpenSpec.upto weighPlaysSpec)

/-- 'cabotagelaw15.WeighSums', WHERE WHAT IT READS IS OF BULK AT MOST 1048576: true; the input reads as it did. -/
def weighSumsUptoRow : OpenClaim := { program := "ytekpjgmhkkjhgaa", sum := "5ac777acc0f8e4d79bfe11222521d872e21750ddc1679589ccafb7d8bb87d549", func := "cabotage/cabotagelaw15.WeighSums", spec := "weighSums", unfollowed := true, recurses := true, plainKeys := false, apart := false, narrowed := true }
def WeighSumsUptoSaid : Prop := weighSumsUptoRow.holds Try.pinned (OpenSpec.upto weighSumsSpec)

/-- 'cabotagelaw15.WeighKnown', WHERE WHAT IT READS IS OF BULK AT MOST 1048576: true; the input reads as it did. -/
def weighKnownUptoRow : OpenClaim := { program := "ytekpjgmhkkjhgaa", sum := "5ac777acc0f8e4d79bfe11222521d872e21750ddc1679589ccafb7d8bb87d549", func := "cabotage/cabotagelaw15.WeighKnown", spec := "weighKnown", unfollowed := true, recurses := true, plainKeys := false, apart := false, narrowed := true }
def WeighKnownUptoSaid : Prop := weighKnownUptoRow.holds Try.pinned (OpenSpec.upto weighKnownSpec)

/-- 'cabotagelaw15.WeighSafe', WHERE WHAT IT READS IS OF BULK AT MOST 1048576: true; the input reads as it did. -/
def weighSafeUptoRow : OpenClaim := { program := "ytekpjgmhkkjhgaa", sum := "5ac777acc0f8e4d79bfe11222521d872e21750ddc1679589ccafb7d8bb87d549", func := "cabotage/cabotagelaw15.WeighSafe", spec := "weighSafe", unfollowed := true, recurses := true, plainKeys := false, apart := false, narrowed := true }
def WeighSafeUptoSaid : Prop := weighSafeUptoRow.holds Try.pinned (OpenSpec.upto weighSafeSpec)

/-- 'cabotagelaw15.WeighLast', WHERE WHAT IT READS IS OF BULK AT MOST 1048576: true; the input reads as it did. -/
def weighLastUptoRow : OpenClaim := { program := "ytekpjgmhkkjhgaa", sum := "5ac777acc0f8e4d79bfe11222521d872e21750ddc1679589ccafb7d8bb87d549", func := "cabotage/cabotagelaw15.WeighLast", spec := "weighLast", unfollowed := true, recurses := true, plainKeys := false, apart := false, narrowed := true }
def WeighLastUptoSaid : Prop := weighLastUptoRow.holds Try.pinned (OpenSpec.upto weighLastSpec)

/-- 'cabotagelaw15.WeighOrder', WHERE WHAT IT READS IS OF BULK AT MOST 1048576: true; the input reads as it did. -/
def weighOrderUptoRow : OpenClaim := { program := "ytekpjgmhkkjhgaa", sum := "5ac777acc0f8e4d79bfe11222521d872e21750ddc1679589ccafb7d8bb87d549", func := "cabotage/cabotagelaw15.WeighOrder", spec := "weighOrder", unfollowed := true, recurses := true, plainKeys := false, apart := false, narrowed := true }
def WeighOrderUptoSaid : Prop := weighOrderUptoRow.holds Try.pinned (OpenSpec.upto weighOrderSpec)

/-- 'cabotagelaw15.WeighTravels', WHERE WHAT IT READS IS OF BULK AT MOST 1048576: true; the input reads as it did. -/
def weighTravelsUptoRow : OpenClaim := { program := "ytekpjgmhkkjhgaa", sum := "5ac777acc0f8e4d79bfe11222521d872e21750ddc1679589ccafb7d8bb87d549", func := "cabotage/cabotagelaw15.WeighTravels", spec := "weighTravels", unfollowed := true, recurses := true, plainKeys := false, apart := false, narrowed := true }
def WeighTravelsUptoSaid : Prop := weighTravelsUptoRow.holds Try.pinned (OpenSpec.upto weighTravelsSpec)

/-- 'cabotagelaw15.WeighKept', WHERE WHAT IT READS IS OF BULK AT MOST 1048576: true; the input reads as it did. -/
def weighKeptUptoRow : OpenClaim := { program := "ytekpjgmhkkjhgaa", sum := "5ac777acc0f8e4d79bfe11222521d872e21750ddc1679589ccafb7d8bb87d549", func := "cabotage/cabotagelaw15.WeighKept", spec := "weighKept", unfollowed := true, recurses := true, plainKeys := false, apart := false, narrowed := true }
def WeighKeptUptoSaid : Prop := weighKeptUptoRow.holds Try.pinned (OpenSpec.upto weighKeptSpec)

/-- 'cabotagelaw15.WeighParts', WHERE WHAT IT READS IS OF BULK AT MOST 1048576: true; the input reads as it did. -/
def weighPartsUptoRow : OpenClaim := { program := "ytekpjgmhkkjhgaa", sum := "5ac777acc0f8e4d79bfe11222521d872e21750ddc1679589ccafb7d8bb87d549", func := "cabotage/cabotagelaw15.WeighParts", spec := "weighParts", unfollowed := true, recurses := true, plainKeys := false, apart := false, narrowed := true }
def WeighPartsUptoSaid : Prop := weighPartsUptoRow.holds Try.pinned (OpenSpec.upto weighPartsSpec)

end Rows
end Go.Proofs.Ytekpjgmhkkjhgaa
