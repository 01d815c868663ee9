/-
  No cell of these rows narrows 'for every input' (looked for: loops, veiled, ifaces, maps, wideKeys, modest, calm, conditions, laid).
  DERIVED. THE GIVEN ROWS OF THIS SEAT. 12 by the template 'for every input the law returns true; each argument reads behind the call as it read before'; 0 by the template 'total and deterministic' (their statements: YtdmjpbmhohanbaaTotals.lean).
  GIVEN WITH THE SEED: the statements are not yours to turn. If you find one false, say at which input.
  Laid BY PROGRAM, IN A SANDBOX (cutbox-rows.mjs): the forced cells as the released guide's own fill.sh prints them over the translation acf05f59c2a9030e… (all of the seat's roots in one cut). By AI agents, Wed Nov 11 2026. No macro, syntax, notation, axiom, sorry.
-/
import Derived.Test.YtdmjpbmhohanbaaChecked
import GoSem.Claim
import GoSem.ClaimJoined
import GoSem.ClaimMapViews
import Derived.JoinedTies
import Derived.KernelRfl
namespace Go.Proofs.Ytdmjpbmhohanbaa
/- THE CELL 'sum', in the pinned program and in every row, IS THE sha256 OF THE DUMP (.gsa) THAT YtdmjpbmhohanbaaProg.lean LOADS. Nothing in Lean hashes anything: it is a label: what it is worth is what the hold of that sum in a sandbox is worth. -/
noncomputable def Try.pinned : Pinned := { name := "ytdmjpbmhohanbaa", sum := "acf05f59c2a9030edba9bded42b9930d59288b8beabb913e1bf462571779bdfd", checked := Try.checked }
namespace Rows
def none {H : Type} : Left H := { results := [], args := [] }

/-- 'laws.FnExactDualOf': WHATEVER THE INPUT: true; the input reads as it did. -/
def fnExactDualOfSpec : ChangeSpec := { name := "fnExactDualOf", fn := fun _ => fun
  | [d] => { results := [.lit (.bool true)], args := [d] }
  | _ => none }
def fnExactDualOfRow : OpenClaim := { program := "ytdmjpbmhohanbaa", sum := "acf05f59c2a9030edba9bded42b9930d59288b8beabb913e1bf462571779bdfd", func := "loop.example/g01108/laws.FnExactDualOf", spec := "fnExactDualOf", plainKeys := false, apart := false }
def FnExactDualOfSaid : Prop := fnExactDualOfRow.holds Try.pinned (OpenSpec.ofChange fnExactDualOfSpec)

/-- ITS FALSE NEIGHBOUR: 'it returns false'. Refute it at one input. -/
def fnExactDualOfWrong : ChangeSpec := { name := "fnExactDualOf", fn := fun _ => fun
  | [d] => { results := [.lit (.bool false)], args := [d] }
  | _ => none }
def FnExactDualOfWrongFalsely : Prop := fnExactDualOfRow.holds Try.pinned (OpenSpec.ofChange fnExactDualOfWrong)

/-- 'laws.FnExactHoleOf': WHATEVER THE INPUT: true; the input reads as it did. -/
def fnExactHoleOfSpec : ChangeSpec := { name := "fnExactHoleOf", fn := fun _ => fun
  | [d1, d2] => { results := [.lit (.bool true)], args := [d1, d2] }
  | _ => none }
def fnExactHoleOfRow : OpenClaim := { program := "ytdmjpbmhohanbaa", sum := "acf05f59c2a9030edba9bded42b9930d59288b8beabb913e1bf462571779bdfd", func := "loop.example/g01108/laws.FnExactHoleOf", spec := "fnExactHoleOf", plainKeys := false, apart := false }
def FnExactHoleOfSaid : Prop := fnExactHoleOfRow.holds Try.pinned (OpenSpec.ofChange fnExactHoleOfSpec)

/-- ITS FALSE NEIGHBOUR: 'it returns false'. Refute it at one input. -/
def fnExactHoleOfWrong : ChangeSpec := { name := "fnExactHoleOf", fn := fun _ => fun
  | [d1, d2] => { results := [.lit (.bool false)], args := [d1, d2] }
  | _ => none }
def FnExactHoleOfWrongFalsely : Prop := fnExactHoleOfRow.holds Try.pinned (OpenSpec.ofChange fnExactHoleOfWrong)

/-- 'laws.FnExactPetrieOf': WHATEVER THE INPUT: true; the input reads as it did. -/
def fnExactPetrieOfSpec : ChangeSpec := { name := "fnExactPetrieOf", fn := fun _ => fun
  | [d] => { results := [.lit (.bool true)], args := [d] }
  | _ => none }
def fnExactPetrieOfRow : OpenClaim := { program := "ytdmjpbmhohanbaa", sum := "acf05f59c2a9030edba9bded42b9930d59288b8beabb913e1bf462571779bdfd", func := "loop.example/g01108/laws.FnExactPetrieOf", spec := "fnExactPetrieOf", plainKeys := false, apart := false }
def FnExactPetrieOfSaid : Prop := fnExactPetrieOfRow.holds Try.pinned (OpenSpec.ofChange fnExactPetrieOfSpec)

/-- ITS FALSE NEIGHBOUR: 'it returns false'. Refute it at one input. -/
def fnExactPetrieOfWrong : ChangeSpec := { name := "fnExactPetrieOf", fn := fun _ => fun
  | [d] => { results := [.lit (.bool false)], args := [d] }
  | _ => none }
def FnExactPetrieOfWrongFalsely : Prop := fnExactPetrieOfRow.holds Try.pinned (OpenSpec.ofChange fnExactPetrieOfWrong)

/-- 'laws.FnExactExtendInside': WHATEVER THE INPUT: true; the input reads as it did. -/
def fnExactExtendInsideSpec : ChangeSpec := { name := "fnExactExtendInside", fn := fun _ => fun
  | [d] => { results := [.lit (.bool true)], args := [d] }
  | _ => none }
def fnExactExtendInsideRow : OpenClaim := { program := "ytdmjpbmhohanbaa", sum := "acf05f59c2a9030edba9bded42b9930d59288b8beabb913e1bf462571779bdfd", func := "loop.example/g01108/laws.FnExactExtendInside", spec := "fnExactExtendInside", plainKeys := false, apart := false }
def FnExactExtendInsideSaid : Prop := fnExactExtendInsideRow.holds Try.pinned (OpenSpec.ofChange fnExactExtendInsideSpec)

/-- ITS FALSE NEIGHBOUR: 'it returns false'. Refute it at one input. -/
def fnExactExtendInsideWrong : ChangeSpec := { name := "fnExactExtendInside", fn := fun _ => fun
  | [d] => { results := [.lit (.bool false)], args := [d] }
  | _ => none }
def FnExactExtendInsideWrongFalsely : Prop := fnExactExtendInsideRow.holds Try.pinned (OpenSpec.ofChange fnExactExtendInsideWrong)

/-- 'laws.FnExactExtendManiplex': WHATEVER THE INPUT: true; the input reads as it did. -/
def fnExactExtendManiplexSpec : ChangeSpec := { name := "fnExactExtendManiplex", fn := fun _ => fun
  | [d] => { results := [.lit (.bool true)], args := [d] }
  | _ => none }
def fnExactExtendManiplexRow : OpenClaim := { program := "ytdmjpbmhohanbaa", sum := "acf05f59c2a9030edba9bded42b9930d59288b8beabb913e1bf462571779bdfd", func := "loop.example/g01108/laws.FnExactExtendManiplex", spec := "fnExactExtendManiplex", plainKeys := false, apart := false }
def FnExactExtendManiplexSaid : Prop := fnExactExtendManiplexRow.holds Try.pinned (OpenSpec.ofChange fnExactExtendManiplexSpec)

/-- ITS FALSE NEIGHBOUR: 'it returns false'. Refute it at one input. -/
def fnExactExtendManiplexWrong : ChangeSpec := { name := "fnExactExtendManiplex", fn := fun _ => fun
  | [d] => { results := [.lit (.bool false)], args := [d] }
  | _ => none }
def FnExactExtendManiplexWrongFalsely : Prop := fnExactExtendManiplexRow.holds Try.pinned (OpenSpec.ofChange fnExactExtendManiplexWrong)

/-- 'laws.FnExactDoubleCover': WHATEVER THE INPUT: true; the input reads as it did. -/
def fnExactDoubleCoverSpec : ChangeSpec := { name := "fnExactDoubleCover", fn := fun _ => fun
  | [d] => { results := [.lit (.bool true)], args := [d] }
  | _ => none }
def fnExactDoubleCoverRow : OpenClaim := { program := "ytdmjpbmhohanbaa", sum := "acf05f59c2a9030edba9bded42b9930d59288b8beabb913e1bf462571779bdfd", func := "loop.example/g01108/laws.FnExactDoubleCover", spec := "fnExactDoubleCover", unfollowed := true, recurses := true, plainKeys := false, apart := false }
def FnExactDoubleCoverSaid : Prop := fnExactDoubleCoverRow.holds Try.pinned (OpenSpec.ofChange fnExactDoubleCoverSpec)

/-- ITS FALSE NEIGHBOUR: 'it returns false'. Refute it at one input. -/
def fnExactDoubleCoverWrong : ChangeSpec := { name := "fnExactDoubleCover", fn := fun _ => fun
  | [d] => { results := [.lit (.bool false)], args := [d] }
  | _ => none }
def FnExactDoubleCoverWrongFalsely : Prop := fnExactDoubleCoverRow.holds Try.pinned (OpenSpec.ofChange fnExactDoubleCoverWrong)

/-- 'laws.FnExactQuotientBy': WHATEVER THE INPUT: true; the input reads as it did. -/
def fnExactQuotientBySpec : ChangeSpec := { name := "fnExactQuotientBy", fn := fun _ => fun
  | [d1, d2] => { results := [.lit (.bool true)], args := [d1, d2] }
  | _ => none }
def fnExactQuotientByRow : OpenClaim := { program := "ytdmjpbmhohanbaa", sum := "acf05f59c2a9030edba9bded42b9930d59288b8beabb913e1bf462571779bdfd", func := "loop.example/g01108/laws.FnExactQuotientBy", spec := "fnExactQuotientBy", unfollowed := true, recurses := true, plainKeys := false, apart := false }
def FnExactQuotientBySaid : Prop := fnExactQuotientByRow.holds Try.pinned (OpenSpec.ofChange fnExactQuotientBySpec)

/-- ITS FALSE NEIGHBOUR: 'it returns false'. Refute it at one input. -/
def fnExactQuotientByWrong : ChangeSpec := { name := "fnExactQuotientBy", fn := fun _ => fun
  | [d1, d2] => { results := [.lit (.bool false)], args := [d1, d2] }
  | _ => none }
def FnExactQuotientByWrongFalsely : Prop := fnExactQuotientByRow.holds Try.pinned (OpenSpec.ofChange fnExactQuotientByWrong)

/-- 'laws.FnExactIsSelfDual': WHATEVER THE INPUT: true; the input reads as it did. -/
def fnExactIsSelfDualSpec : ChangeSpec := { name := "fnExactIsSelfDual", fn := fun _ => fun
  | [d] => { results := [.lit (.bool true)], args := [d] }
  | _ => none }
def fnExactIsSelfDualRow : OpenClaim := { program := "ytdmjpbmhohanbaa", sum := "acf05f59c2a9030edba9bded42b9930d59288b8beabb913e1bf462571779bdfd", func := "loop.example/g01108/laws.FnExactIsSelfDual", spec := "fnExactIsSelfDual", unfollowed := true, recurses := true, plainKeys := false, apart := false }
def FnExactIsSelfDualSaid : Prop := fnExactIsSelfDualRow.holds Try.pinned (OpenSpec.ofChange fnExactIsSelfDualSpec)

/-- ITS FALSE NEIGHBOUR: 'it returns false'. Refute it at one input. -/
def fnExactIsSelfDualWrong : ChangeSpec := { name := "fnExactIsSelfDual", fn := fun _ => fun
  | [d] => { results := [.lit (.bool false)], args := [d] }
  | _ => none }
def FnExactIsSelfDualWrongFalsely : Prop := fnExactIsSelfDualRow.holds Try.pinned (OpenSpec.ofChange fnExactIsSelfDualWrong)

/-- 'laws.FnExactIsSelfPetrie': WHATEVER THE INPUT: true; the input reads as it did. -/
def fnExactIsSelfPetrieSpec : ChangeSpec := { name := "fnExactIsSelfPetrie", fn := fun _ => fun
  | [d] => { results := [.lit (.bool true)], args := [d] }
  | _ => none }
def fnExactIsSelfPetrieRow : OpenClaim := { program := "ytdmjpbmhohanbaa", sum := "acf05f59c2a9030edba9bded42b9930d59288b8beabb913e1bf462571779bdfd", func := "loop.example/g01108/laws.FnExactIsSelfPetrie", spec := "fnExactIsSelfPetrie", unfollowed := true, recurses := true, plainKeys := false, apart := false }
def FnExactIsSelfPetrieSaid : Prop := fnExactIsSelfPetrieRow.holds Try.pinned (OpenSpec.ofChange fnExactIsSelfPetrieSpec)

/-- ITS FALSE NEIGHBOUR: 'it returns false'. Refute it at one input. -/
def fnExactIsSelfPetrieWrong : ChangeSpec := { name := "fnExactIsSelfPetrie", fn := fun _ => fun
  | [d] => { results := [.lit (.bool false)], args := [d] }
  | _ => none }
def FnExactIsSelfPetrieWrongFalsely : Prop := fnExactIsSelfPetrieRow.holds Try.pinned (OpenSpec.ofChange fnExactIsSelfPetrieWrong)

/-- 'laws.FnExactPetrieLengths': WHATEVER THE INPUT: true; the input reads as it did. -/
def fnExactPetrieLengthsSpec : ChangeSpec := { name := "fnExactPetrieLengths", fn := fun _ => fun
  | [d] => { results := [.lit (.bool true)], args := [d] }
  | _ => none }
def fnExactPetrieLengthsRow : OpenClaim := { program := "ytdmjpbmhohanbaa", sum := "acf05f59c2a9030edba9bded42b9930d59288b8beabb913e1bf462571779bdfd", func := "loop.example/g01108/laws.FnExactPetrieLengths", spec := "fnExactPetrieLengths", plainKeys := false, apart := false }
def FnExactPetrieLengthsSaid : Prop := fnExactPetrieLengthsRow.holds Try.pinned (OpenSpec.ofChange fnExactPetrieLengthsSpec)

/-- ITS FALSE NEIGHBOUR: 'it returns false'. Refute it at one input. -/
def fnExactPetrieLengthsWrong : ChangeSpec := { name := "fnExactPetrieLengths", fn := fun _ => fun
  | [d] => { results := [.lit (.bool false)], args := [d] }
  | _ => none }
def FnExactPetrieLengthsWrongFalsely : Prop := fnExactPetrieLengthsRow.holds Try.pinned (OpenSpec.ofChange fnExactPetrieLengthsWrong)

/-- 'laws.FnExactWordPeriod': WHATEVER THE INPUT: true; the input reads as it did. -/
def fnExactWordPeriodSpec : ChangeSpec := { name := "fnExactWordPeriod", fn := fun _ => fun
  | [d1, d2] => { results := [.lit (.bool true)], args := [d1, d2] }
  | _ => none }
def fnExactWordPeriodRow : OpenClaim := { program := "ytdmjpbmhohanbaa", sum := "acf05f59c2a9030edba9bded42b9930d59288b8beabb913e1bf462571779bdfd", func := "loop.example/g01108/laws.FnExactWordPeriod", spec := "fnExactWordPeriod", unfollowed := true, recurses := true, plainKeys := false, apart := false }
def FnExactWordPeriodSaid : Prop := fnExactWordPeriodRow.holds Try.pinned (OpenSpec.ofChange fnExactWordPeriodSpec)

/-- ITS FALSE NEIGHBOUR: 'it returns false'. Refute it at one input. -/
def fnExactWordPeriodWrong : ChangeSpec := { name := "fnExactWordPeriod", fn := fun _ => fun
  | [d1, d2] => { results := [.lit (.bool false)], args := [d1, d2] }
  | _ => none }
def FnExactWordPeriodWrongFalsely : Prop := fnExactWordPeriodRow.holds Try.pinned (OpenSpec.ofChange fnExactWordPeriodWrong)

/-- 'laws.FnExactMixPairs': WHATEVER THE INPUT: true; the input reads as it did. -/
def fnExactMixPairsSpec : ChangeSpec := { name := "fnExactMixPairs", fn := fun _ => fun
  | [d1, d2, d3, d4] => { results := [.lit (.bool true)], args := [d1, d2, d3, d4] }
  | _ => none }
def fnExactMixPairsRow : OpenClaim := { program := "ytdmjpbmhohanbaa", sum := "acf05f59c2a9030edba9bded42b9930d59288b8beabb913e1bf462571779bdfd", func := "loop.example/g01108/laws.FnExactMixPairs", spec := "fnExactMixPairs", plainKeys := false, apart := false }
def FnExactMixPairsSaid : Prop := fnExactMixPairsRow.holds Try.pinned (OpenSpec.ofChange fnExactMixPairsSpec)

/-- ITS FALSE NEIGHBOUR: 'it returns false'. Refute it at one input. -/
def fnExactMixPairsWrong : ChangeSpec := { name := "fnExactMixPairs", fn := fun _ => fun
  | [d1, d2, d3, d4] => { results := [.lit (.bool false)], args := [d1, d2, d3, d4] }
  | _ => none }
def FnExactMixPairsWrongFalsely : Prop := fnExactMixPairsRow.holds Try.pinned (OpenSpec.ofChange fnExactMixPairsWrong)

/- THE SECOND FORM. 'bulk': how many values and letters a reading holds, each counted each time it is reached (what is shared counts as often as it is met; a slice's spare places count too). A statement '..UptoSaid' is the law's where the arguments, and the package variables that the reading takes, are together of bulk at most 1048576: NARROWER than '..Said'. Prove '..Said' where nothing that the law and all that it calls make is longer than what came in: it says more and counts as full. Else prove '..UptoSaid'. A law counts once. -/
mutual
def uptoBulk {H : Type} : DataW H → Nat
  | .lit (.string bytes) => bytes.length + 1
  | .lit _ => 1
  | .nil => 1
  | .ptr d => uptoBulk d + 1
  | .slice elems spare => uptoBulkAll elems + uptoBulkAll spare + 1
  | .agg parts => uptoBulkAll parts + 1
  | .iface _ d => uptoBulk d + 1
  | .map entries => uptoBulkEntries entries + 1
  | .held _ => 1
def uptoBulkAll {H : Type} : List (DataW H) → Nat
  | [] => 0
  | d :: r => uptoBulk d + uptoBulkAll r
def uptoBulkEntries {H : Type} : List (Lit × DataW H) → Nat
  | [] => 0
  | x :: r => uptoBulkEntry x + uptoBulkEntries r
def uptoBulkEntry {H : Type} : Lit × DataW H → Nat
  | (.string bytes, d) => bytes.length + uptoBulk d + 1
  | (_, d) => uptoBulk d + 1
 end
def uptoSmall : (H : Type) → List (DataW H) → Bool := fun _ ds => decide (uptoBulkAll ds ≤ 1048576)
def OpenSpec.upto (s : _root_.Go.ChangeSpec) : _root_.Go.OpenSpec := { _root_.Go.OpenSpec.ofChange s with cond := some uptoSmall }

/-- 'laws.FnExactDualOf', WHERE WHAT IT READS IS OF BULK AT MOST 1048576: true; the input reads as it did. -/
def fnExactDualOfUptoRow : OpenClaim := { program := "ytdmjpbmhohanbaa", sum := "acf05f59c2a9030edba9bded42b9930d59288b8beabb913e1bf462571779bdfd", func := "loop.example/g01108/laws.FnExactDualOf", spec := "fnExactDualOf", plainKeys := false, apart := false, narrowed := true }
def FnExactDualOfUptoSaid : Prop := fnExactDualOfUptoRow.holds Try.pinned (OpenSpec.upto fnExactDualOfSpec)

/-- 'laws.FnExactHoleOf', WHERE WHAT IT READS IS OF BULK AT MOST 1048576: true; the input reads as it did. -/
def fnExactHoleOfUptoRow : OpenClaim := { program := "ytdmjpbmhohanbaa", sum := "acf05f59c2a9030edba9bded42b9930d59288b8beabb913e1bf462571779bdfd", func := "loop.example/g01108/laws.FnExactHoleOf", spec := "fnExactHoleOf", plainKeys := false, apart := false, narrowed := true }
def FnExactHoleOfUptoSaid : Prop := fnExactHoleOfUptoRow.holds Try.pinned (OpenSpec.upto fnExactHoleOfSpec)

/-- 'laws.FnExactPetrieOf', WHERE WHAT IT READS IS OF BULK AT MOST 1048576: true; the input reads as it did. -/
def fnExactPetrieOfUptoRow : OpenClaim := { program := "ytdmjpbmhohanbaa", sum := "acf05f59c2a9030edba9bded42b9930d59288b8beabb913e1bf462571779bdfd", func := "loop.example/g01108/laws.FnExactPetrieOf", spec := "fnExactPetrieOf", plainKeys := false, apart := false, narrowed := true }
def FnExactPetrieOfUptoSaid : Prop := fnExactPetrieOfUptoRow.holds Try.pinned (OpenSpec.upto fnExactPetrieOfSpec)

/-- 'laws.FnExactExtendInside', WHERE WHAT IT READS IS OF BULK AT MOST 1048576: true; the input reads as it did. -/
def fnExactExtendInsideUptoRow : OpenClaim := { program := "ytdmjpbmhohanbaa", sum := "acf05f59c2a9030edba9bded42b9930d59288b8beabb913e1bf462571779bdfd", func := "loop.example/g01108/laws.FnExactExtendInside", spec := "fnExactExtendInside", plainKeys := false, apart := false, narrowed := true }
def FnExactExtendInsideUptoSaid : Prop := fnExactExtendInsideUptoRow.holds Try.pinned (OpenSpec.upto fnExactExtendInsideSpec)

/-- 'laws.FnExactExtendManiplex', WHERE WHAT IT READS IS OF BULK AT MOST 1048576: true; the input reads as it did. -/
def fnExactExtendManiplexUptoRow : OpenClaim := { program := "ytdmjpbmhohanbaa", sum := "acf05f59c2a9030edba9bded42b9930d59288b8beabb913e1bf462571779bdfd", func := "loop.example/g01108/laws.FnExactExtendManiplex", spec := "fnExactExtendManiplex", plainKeys := false, apart := false, narrowed := true }
def FnExactExtendManiplexUptoSaid : Prop := fnExactExtendManiplexUptoRow.holds Try.pinned (OpenSpec.upto fnExactExtendManiplexSpec)

/-- 'laws.FnExactDoubleCover', WHERE WHAT IT READS IS OF BULK AT MOST 1048576: true; the input reads as it did. -/
def fnExactDoubleCoverUptoRow : OpenClaim := { program := "ytdmjpbmhohanbaa", sum := "acf05f59c2a9030edba9bded42b9930d59288b8beabb913e1bf462571779bdfd", func := "loop.example/g01108/laws.FnExactDoubleCover", spec := "fnExactDoubleCover", unfollowed := true, recurses := true, plainKeys := false, apart := false, narrowed := true }
def FnExactDoubleCoverUptoSaid : Prop := fnExactDoubleCoverUptoRow.holds Try.pinned (OpenSpec.upto fnExactDoubleCoverSpec)

/-- 'laws.FnExactQuotientBy', WHERE WHAT IT READS IS OF BULK AT MOST 1048576: true; the input reads as it did. -/
def fnExactQuotientByUptoRow : OpenClaim := { program := "ytdmjpbmhohanbaa", sum := "acf05f59c2a9030edba9bded42b9930d59288b8beabb913e1bf462571779bdfd", func := "loop.example/g01108/laws.FnExactQuotientBy", spec := "fnExactQuotientBy", unfollowed := true, recurses := true, plainKeys := false, apart := false, narrowed := true }
def FnExactQuotientByUptoSaid : Prop := fnExactQuotientByUptoRow.holds Try.pinned (OpenSpec.upto fnExactQuotientBySpec)

/-- 'laws.FnExactIsSelfDual', WHERE WHAT IT READS IS OF BULK AT MOST 1048576: true; the input reads as it did. -/
def fnExactIsSelfDualUptoRow : OpenClaim := { program := "ytdmjpbmhohanbaa", sum := "acf05f59c2a9030edba9bded42b9930d59288b8beabb913e1bf462571779bdfd", func := "loop.example/g01108/laws.FnExactIsSelfDual", spec := "fnExactIsSelfDual", unfollowed := true, recurses := true, plainKeys := false, apart := false, narrowed := true }
def FnExactIsSelfDualUptoSaid : Prop := fnExactIsSelfDualUptoRow.holds Try.pinned (OpenSpec.upto fnExactIsSelfDualSpec)

/-- 'laws.FnExactIsSelfPetrie', WHERE WHAT IT READS IS OF BULK AT MOST 1048576: true; the input reads as it did. -/
def fnExactIsSelfPetrieUptoRow : OpenClaim := { program := "ytdmjpbmhohanbaa", sum := "acf05f59c2a9030edba9bded42b9930d59288b8beabb913e1bf462571779bdfd", func := "loop.example/g01108/laws.FnExactIsSelfPetrie", spec := "fnExactIsSelfPetrie", unfollowed := true, recurses := true, plainKeys := false, apart := false, narrowed := true }
def FnExactIsSelfPetrieUptoSaid : Prop := fnExactIsSelfPetrieUptoRow.holds Try.pinned (OpenSpec.upto fnExactIsSelfPetrieSpec)

/-- 'laws.FnExactPetrieLengths', WHERE WHAT IT READS IS OF BULK AT MOST 1048576: true; the input reads as it did. -/
def fnExactPetrieLengthsUptoRow : OpenClaim := { program := "ytdmjpbmhohanbaa", sum := "acf05f59c2a9030edba9bded42b9930d59288b8beabb913e1bf462571779bdfd", func := "loop.example/g01108/laws.FnExactPetrieLengths", spec := "fnExactPetrieLengths", plainKeys := false, apart := false, narrowed := true }
def FnExactPetrieLengthsUptoSaid : Prop := fnExactPetrieLengthsUptoRow.holds Try.pinned (OpenSpec.upto fnExactPetrieLengthsSpec)

/-- 'laws.FnExactWordPeriod', WHERE WHAT IT READS IS OF BULK AT MOST 1048576: true; the input reads as it did. -/
def fnExactWordPeriodUptoRow : OpenClaim := { program := "ytdmjpbmhohanbaa", sum := "acf05f59c2a9030edba9bded42b9930d59288b8beabb913e1bf462571779bdfd", func := "loop.example/g01108/laws.FnExactWordPeriod", spec := "fnExactWordPeriod", unfollowed := true, recurses := true, plainKeys := false, apart := false, narrowed := true }
def FnExactWordPeriodUptoSaid : Prop := fnExactWordPeriodUptoRow.holds Try.pinned (OpenSpec.upto fnExactWordPeriodSpec)

/-- 'laws.FnExactMixPairs', WHERE WHAT IT READS IS OF BULK AT MOST 1048576: true; the input reads as it did. -/
def fnExactMixPairsUptoRow : OpenClaim := { program := "ytdmjpbmhohanbaa", sum := "acf05f59c2a9030edba9bded42b9930d59288b8beabb913e1bf462571779bdfd", func := "loop.example/g01108/laws.FnExactMixPairs", spec := "fnExactMixPairs", plainKeys := false, apart := false, narrowed := true }
def FnExactMixPairsUptoSaid : Prop := fnExactMixPairsUptoRow.holds Try.pinned (OpenSpec.upto fnExactMixPairsSpec)

end Rows
end Go.Proofs.Ytdmjpbmhohanbaa
