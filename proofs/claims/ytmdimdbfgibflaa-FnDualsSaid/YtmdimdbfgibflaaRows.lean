/-
  No cell of these rows narrows 'for every input' (looked for: loops, veiled, ifaces, maps, wideKeys, modest, calm, conditions, laid).
  DERIVED. THE GIVEN ROWS OF THIS SEAT. 7 by the template 'for every input the law returns true; each argument reads behind the call as it read before'; 0 by the template 'total and deterministic' (their statements: YtmdimdbfgibflaaTotals.lean).
  GIVEN WITH THE SEED: the statements are not yours to turn. If you find one false, say at which input.
  Laid BY PROGRAM, IN A SANDBOX (cutbox-rows.mjs): the forced cells as the released guide's own fill.sh prints them over the translation 21e94e3a849bffe1… (all of the seat's roots in one cut). By AI agents, Wed Nov 11 2026. No macro, syntax, notation, axiom, sorry.
-/
import Derived.Test.YtmdimdbfgibflaaChecked
import GoSem.Claim
import GoSem.ClaimJoined
import GoSem.ClaimMapViews
import Derived.JoinedTies
import Derived.KernelRfl
namespace Go.Proofs.Ytmdimdbfgibflaa
/- THE CELL 'sum', in the pinned program and in every row, IS THE sha256 OF THE DUMP (.gsa) THAT YtmdimdbfgibflaaProg.lean LOADS. Nothing in Lean hashes anything: it is a label: what it is worth is what the hold of that sum in a sandbox is worth. -/
noncomputable def Try.pinned : Pinned := { name := "ytmdimdbfgibflaa", sum := "21e94e3a849bffe1270b7e92ed30c5308cc2497e374e1f4d7537611cd9c3f26f", checked := Try.checked }
namespace Rows
def none {H : Type} : Left H := { results := [], args := [] }

/-- 'laws.FnReplacedMoves': WHATEVER THE INPUT: true; the input reads as it did. -/
def fnReplacedMovesSpec : ChangeSpec := { name := "fnReplacedMoves", fn := fun _ => fun
  | [d] => { results := [.lit (.bool true)], args := [d] }
  | _ => none }
def fnReplacedMovesRow : OpenClaim := { program := "ytmdimdbfgibflaa", sum := "21e94e3a849bffe1270b7e92ed30c5308cc2497e374e1f4d7537611cd9c3f26f", func := "loop.example/g01108/laws.FnReplacedMoves", spec := "fnReplacedMoves", unfollowed := true, recurses := true, plainKeys := false, apart := false }
def FnReplacedMovesSaid : Prop := fnReplacedMovesRow.holds Try.pinned (OpenSpec.ofChange fnReplacedMovesSpec)

/-- ITS FALSE NEIGHBOUR: 'it returns false'. Refute it at one input. -/
def fnReplacedMovesWrong : ChangeSpec := { name := "fnReplacedMoves", fn := fun _ => fun
  | [d] => { results := [.lit (.bool false)], args := [d] }
  | _ => none }
def FnReplacedMovesWrongFalsely : Prop := fnReplacedMovesRow.holds Try.pinned (OpenSpec.ofChange fnReplacedMovesWrong)

/-- 'laws.FnDoubleCovers': WHATEVER THE INPUT: true; the input reads as it did. -/
def fnDoubleCoversSpec : ChangeSpec := { name := "fnDoubleCovers", fn := fun _ => fun
  | [d] => { results := [.lit (.bool true)], args := [d] }
  | _ => none }
def fnDoubleCoversRow : OpenClaim := { program := "ytmdimdbfgibflaa", sum := "21e94e3a849bffe1270b7e92ed30c5308cc2497e374e1f4d7537611cd9c3f26f", func := "loop.example/g01108/laws.FnDoubleCovers", spec := "fnDoubleCovers", unfollowed := true, recurses := true, plainKeys := false, apart := false }
def FnDoubleCoversSaid : Prop := fnDoubleCoversRow.holds Try.pinned (OpenSpec.ofChange fnDoubleCoversSpec)

/-- ITS FALSE NEIGHBOUR: 'it returns false'. Refute it at one input. -/
def fnDoubleCoversWrong : ChangeSpec := { name := "fnDoubleCovers", fn := fun _ => fun
  | [d] => { results := [.lit (.bool false)], args := [d] }
  | _ => none }
def FnDoubleCoversWrongFalsely : Prop := fnDoubleCoversRow.holds Try.pinned (OpenSpec.ofChange fnDoubleCoversWrong)

/-- 'laws.FnExtensions': WHATEVER THE INPUT: true; the input reads as it did. -/
def fnExtensionsSpec : ChangeSpec := { name := "fnExtensions", fn := fun _ => fun
  | [d] => { results := [.lit (.bool true)], args := [d] }
  | _ => none }
def fnExtensionsRow : OpenClaim := { program := "ytmdimdbfgibflaa", sum := "21e94e3a849bffe1270b7e92ed30c5308cc2497e374e1f4d7537611cd9c3f26f", func := "loop.example/g01108/laws.FnExtensions", spec := "fnExtensions", unfollowed := true, recurses := true, plainKeys := false, apart := false }
def FnExtensionsSaid : Prop := fnExtensionsRow.holds Try.pinned (OpenSpec.ofChange fnExtensionsSpec)

/-- ITS FALSE NEIGHBOUR: 'it returns false'. Refute it at one input. -/
def fnExtensionsWrong : ChangeSpec := { name := "fnExtensions", fn := fun _ => fun
  | [d] => { results := [.lit (.bool false)], args := [d] }
  | _ => none }
def FnExtensionsWrongFalsely : Prop := fnExtensionsRow.holds Try.pinned (OpenSpec.ofChange fnExtensionsWrong)

/-- 'laws.FnPetries': WHATEVER THE INPUT: true; the input reads as it did. -/
def fnPetriesSpec : ChangeSpec := { name := "fnPetries", fn := fun _ => fun
  | [d] => { results := [.lit (.bool true)], args := [d] }
  | _ => none }
def fnPetriesRow : OpenClaim := { program := "ytmdimdbfgibflaa", sum := "21e94e3a849bffe1270b7e92ed30c5308cc2497e374e1f4d7537611cd9c3f26f", func := "loop.example/g01108/laws.FnPetries", spec := "fnPetries", unfollowed := true, recurses := true, plainKeys := false, apart := false }
def FnPetriesSaid : Prop := fnPetriesRow.holds Try.pinned (OpenSpec.ofChange fnPetriesSpec)

/-- ITS FALSE NEIGHBOUR: 'it returns false'. Refute it at one input. -/
def fnPetriesWrong : ChangeSpec := { name := "fnPetries", fn := fun _ => fun
  | [d] => { results := [.lit (.bool false)], args := [d] }
  | _ => none }
def FnPetriesWrongFalsely : Prop := fnPetriesRow.holds Try.pinned (OpenSpec.ofChange fnPetriesWrong)

/-- 'laws.FnMixes': WHATEVER THE INPUT: true; the input reads as it did. -/
def fnMixesSpec : ChangeSpec := { name := "fnMixes", fn := fun _ => fun
  | [d] => { results := [.lit (.bool true)], args := [d] }
  | _ => none }
def fnMixesRow : OpenClaim := { program := "ytmdimdbfgibflaa", sum := "21e94e3a849bffe1270b7e92ed30c5308cc2497e374e1f4d7537611cd9c3f26f", func := "loop.example/g01108/laws.FnMixes", spec := "fnMixes", unfollowed := true, recurses := true, plainKeys := false, apart := false }
def FnMixesSaid : Prop := fnMixesRow.holds Try.pinned (OpenSpec.ofChange fnMixesSpec)

/-- ITS FALSE NEIGHBOUR: 'it returns false'. Refute it at one input. -/
def fnMixesWrong : ChangeSpec := { name := "fnMixes", fn := fun _ => fun
  | [d] => { results := [.lit (.bool false)], args := [d] }
  | _ => none }
def FnMixesWrongFalsely : Prop := fnMixesRow.holds Try.pinned (OpenSpec.ofChange fnMixesWrong)

/-- 'laws.FnNothings': WHATEVER THE INPUT: true; the input reads as it did. -/
def fnNothingsSpec : ChangeSpec := { name := "fnNothings", fn := fun _ => fun
  | [d] => { results := [.lit (.bool true)], args := [d] }
  | _ => none }
def fnNothingsRow : OpenClaim := { program := "ytmdimdbfgibflaa", sum := "21e94e3a849bffe1270b7e92ed30c5308cc2497e374e1f4d7537611cd9c3f26f", func := "loop.example/g01108/laws.FnNothings", spec := "fnNothings", unfollowed := true, recurses := true, plainKeys := false, apart := false }
def FnNothingsSaid : Prop := fnNothingsRow.holds Try.pinned (OpenSpec.ofChange fnNothingsSpec)

/-- ITS FALSE NEIGHBOUR: 'it returns false'. Refute it at one input. -/
def fnNothingsWrong : ChangeSpec := { name := "fnNothings", fn := fun _ => fun
  | [d] => { results := [.lit (.bool false)], args := [d] }
  | _ => none }
def FnNothingsWrongFalsely : Prop := fnNothingsRow.holds Try.pinned (OpenSpec.ofChange fnNothingsWrong)

/-- 'laws.FnDuals': WHATEVER THE INPUT: true; the input reads as it did. -/
def fnDualsSpec : ChangeSpec := { name := "fnDuals", fn := fun _ => fun
  | [d] => { results := [.lit (.bool true)], args := [d] }
  | _ => none }
def fnDualsRow : OpenClaim := { program := "ytmdimdbfgibflaa", sum := "21e94e3a849bffe1270b7e92ed30c5308cc2497e374e1f4d7537611cd9c3f26f", func := "loop.example/g01108/laws.FnDuals", spec := "fnDuals", unfollowed := true, recurses := true, plainKeys := false, apart := false }
def FnDualsSaid : Prop := fnDualsRow.holds Try.pinned (OpenSpec.ofChange fnDualsSpec)

/-- ITS FALSE NEIGHBOUR: 'it returns false'. Refute it at one input. -/
def fnDualsWrong : ChangeSpec := { name := "fnDuals", fn := fun _ => fun
  | [d] => { results := [.lit (.bool false)], args := [d] }
  | _ => none }
def FnDualsWrongFalsely : Prop := fnDualsRow.holds Try.pinned (OpenSpec.ofChange fnDualsWrong)

/- THE SECOND FORM. 'bulk': how many values and letters a reading holds, each counted each time it is reached (what is shared counts as often as it is met; a slice's spare places count too). A statement '..UptoSaid' is the law's where the arguments, and the package variables that the reading takes, are together of bulk at most 1048576: NARROWER than '..Said'. Prove '..Said' where nothing that the law and all that it calls make is longer than what came in: it says more and counts as full. Else prove '..UptoSaid'. A law counts once. -/
mutual
def uptoBulk {H : Type} : DataW H → Nat
  | .lit (.string bytes) => bytes.length + 1
  | .lit _ => 1
  | .nil => 1
  | .ptr d => uptoBulk d + 1
  | .slice elems spare => uptoBulkAll elems + uptoBulkAll spare + 1
  | .agg parts => uptoBulkAll parts + 1
  | .iface _ d => uptoBulk d + 1
  | .map entries => uptoBulkEntries entries + 1
  | .held _ => 1
def uptoBulkAll {H : Type} : List (DataW H) → Nat
  | [] => 0
  | d :: r => uptoBulk d + uptoBulkAll r
def uptoBulkEntries {H : Type} : List (Lit × DataW H) → Nat
  | [] => 0
  | x :: r => uptoBulkEntry x + uptoBulkEntries r
def uptoBulkEntry {H : Type} : Lit × DataW H → Nat
  | (.string bytes, d) => bytes.length + uptoBulk d + 1
  | (_, d) => uptoBulk d + 1
 end
def uptoSmall : (H : Type) → List (DataW H) → Bool := fun _ ds => decide (uptoBulkAll ds ≤ 1048576)
def OpenSpec.upto (s : _root_.Go.ChangeSpec) : _root_.Go.OpenSpec := { _root_.Go.OpenSpec.ofChange s with cond := some uptoSmall }

/-- 'laws.FnReplacedMoves', WHERE WHAT IT READS IS OF BULK AT MOST 1048576: true; the input reads as it did. -/
def fnReplacedMovesUptoRow : OpenClaim := { program := "ytmdimdbfgibflaa", sum := "21e94e3a849bffe1270b7e92ed30c5308cc2497e374e1f4d7537611cd9c3f26f", func := "loop.example/g01108/laws.FnReplacedMoves", spec := "fnReplacedMoves", unfollowed := true, recurses := true, plainKeys := false, apart := false, narrowed := true }
def FnReplacedMovesUptoSaid : Prop := fnReplacedMovesUptoRow.holds Try.pinned (OpenSpec.upto fnReplacedMovesSpec)

/-- 'laws.FnDoubleCovers', WHERE WHAT IT READS IS OF BULK AT MOST 1048576: true; the input reads as it did. -/
def fnDoubleCoversUptoRow : OpenClaim := { program := "ytmdimdbfgibflaa", sum := "21e94e3a849bffe1270b7e92ed30c5308cc2497e374e1f4d7537611cd9c3f26f", func := "loop.example/g01108/laws.FnDoubleCovers", spec := "fnDoubleCovers", unfollowed := true, recurses := true, plainKeys := false, apart := false, narrowed := true }
def FnDoubleCoversUptoSaid : Prop := fnDoubleCoversUptoRow.holds Try.pinned (OpenSpec.upto fnDoubleCoversSpec)

/-- 'laws.FnExtensions', WHERE WHAT IT READS IS OF BULK AT MOST 1048576: true; the input reads as it did. -/
def fnExtensionsUptoRow : OpenClaim := { program := "ytmdimdbfgibflaa", sum := "21e94e3a849bffe1270b7e92ed30c5308cc2497e374e1f4d7537611cd9c3f26f", func := "loop.example/g01108/laws.FnExtensions", spec := "fnExtensions", unfollowed := true, recurses := true, plainKeys := false, apart := false, narrowed := true }
def FnExtensionsUptoSaid : Prop := fnExtensionsUptoRow.holds Try.pinned (OpenSpec.upto fnExtensionsSpec)

/-- 'laws.FnPetries', WHERE WHAT IT READS IS OF BULK AT MOST 1048576: true; the input reads as it did. -/
def fnPetriesUptoRow : OpenClaim := { program := "ytmdimdbfgibflaa", sum := "21e94e3a849bffe1270b7e92ed30c5308cc2497e374e1f4d7537611cd9c3f26f", func := "loop.example/g01108/laws.FnPetries", spec := "fnPetries", unfollowed := true, recurses := true, plainKeys := false, apart := false, narrowed := true }
def FnPetriesUptoSaid : Prop := fnPetriesUptoRow.holds Try.pinned (OpenSpec.upto fnPetriesSpec)

/-- 'laws.FnMixes', WHERE WHAT IT READS IS OF BULK AT MOST 1048576: true; the input reads as it did. -/
def fnMixesUptoRow : OpenClaim := { program := "ytmdimdbfgibflaa", sum := "21e94e3a849bffe1270b7e92ed30c5308cc2497e374e1f4d7537611cd9c3f26f", func := "loop.example/g01108/laws.FnMixes", spec := "fnMixes", unfollowed := true, recurses := true, plainKeys := false, apart := false, narrowed := true }
def FnMixesUptoSaid : Prop := fnMixesUptoRow.holds Try.pinned (OpenSpec.upto fnMixesSpec)

/-- 'laws.FnNothings', WHERE WHAT IT READS IS OF BULK AT MOST 1048576: true; the input reads as it did. -/
def fnNothingsUptoRow : OpenClaim := { program := "ytmdimdbfgibflaa", sum := "21e94e3a849bffe1270b7e92ed30c5308cc2497e374e1f4d7537611cd9c3f26f", func := "loop.example/g01108/laws.FnNothings", spec := "fnNothings", unfollowed := true, recurses := true, plainKeys := false, apart := false, narrowed := true }
def FnNothingsUptoSaid : Prop := fnNothingsUptoRow.holds Try.pinned (OpenSpec.upto fnNothingsSpec)

/-- 'laws.FnDuals', WHERE WHAT IT READS IS OF BULK AT MOST 1048576: true; the input reads as it did. -/
def fnDualsUptoRow : OpenClaim := { program := "ytmdimdbfgibflaa", sum := "21e94e3a849bffe1270b7e92ed30c5308cc2497e374e1f4d7537611cd9c3f26f", func := "loop.example/g01108/laws.FnDuals", spec := "fnDuals", unfollowed := true, recurses := true, plainKeys := false, apart := false, narrowed := true }
def FnDualsUptoSaid : Prop := fnDualsUptoRow.holds Try.pinned (OpenSpec.upto fnDualsSpec)

end Rows
end Go.Proofs.Ytmdimdbfgibflaa
