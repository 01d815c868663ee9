/-
  No cell of these rows narrows 'for every input' (looked for: loops, veiled, ifaces, maps, wideKeys, modest, calm, conditions, laid).
  DERIVED. THE GIVEN ROWS OF THIS SEAT. 12 by the template 'for every input the law returns true; each argument reads behind the call as it read before'; 0 by the template 'total and deterministic' (their statements: YtmfegkjjfmmoaaaTotals.lean).
  GIVEN WITH THE SEED: the statements are not yours to turn. If you find one false, say at which input.
  Laid BY PROGRAM, IN A SANDBOX (cutbox-rows.mjs): the forced cells as the released guide's own fill.sh prints them over the translation 7a0a9da4386ade48… (all of the seat's roots in one cut). By AI agents, Wed Nov 11 2026. No macro, syntax, notation, axiom, sorry.
-/
import Derived.Test.YtmfegkjjfmmoaaaChecked
import GoSem.Claim
import GoSem.ClaimJoined
import GoSem.ClaimMapViews
import Derived.JoinedTies
import Derived.KernelRfl
namespace Go.Proofs.Ytmfegkjjfmmoaaa
/- THE CELL 'sum', in the pinned program and in every row, IS THE sha256 OF THE DUMP (.gsa) THAT YtmfegkjjfmmoaaaProg.lean LOADS. Nothing in Lean hashes anything: it is a label: what it is worth is what the hold of that sum in a sandbox is worth. -/
noncomputable def Try.pinned : Pinned := { name := "ytmfegkjjfmmoaaa", sum := "7a0a9da4386ade48a227a1c0fd41d62d22e0953ffbe6abe20310ce662b5ea76c", checked := Try.checked }
namespace Rows
def none {H : Type} : Left H := { results := [], args := [] }

/-- 'laws.FnExactPetrieLengths': WHATEVER THE INPUT: true; the input reads as it did. -/
def fnExactPetrieLengthsSpec : ChangeSpec := { name := "fnExactPetrieLengths", fn := fun _ => fun
  | [d] => { results := [.lit (.bool true)], args := [d] }
  | _ => none }
def fnExactPetrieLengthsRow : OpenClaim := { program := "ytmfegkjjfmmoaaa", sum := "7a0a9da4386ade48a227a1c0fd41d62d22e0953ffbe6abe20310ce662b5ea76c", func := "loop.example/g01108/laws.FnExactPetrieLengths", spec := "fnExactPetrieLengths", plainKeys := false, apart := false }
def FnExactPetrieLengthsSaid : Prop := fnExactPetrieLengthsRow.holds Try.pinned (OpenSpec.ofChange fnExactPetrieLengthsSpec)

/-- ITS FALSE NEIGHBOUR: 'it returns false'. Refute it at one input. -/
def fnExactPetrieLengthsWrong : ChangeSpec := { name := "fnExactPetrieLengths", fn := fun _ => fun
  | [d] => { results := [.lit (.bool false)], args := [d] }
  | _ => none }
def FnExactPetrieLengthsWrongFalsely : Prop := fnExactPetrieLengthsRow.holds Try.pinned (OpenSpec.ofChange fnExactPetrieLengthsWrong)

/-- 'laws.FnExactStandardAutomorphisms': WHATEVER THE INPUT: true; the input reads as it did. -/
def fnExactStandardAutomorphismsSpec : ChangeSpec := { name := "fnExactStandardAutomorphisms", fn := fun _ => fun
  | [d] => { results := [.lit (.bool true)], args := [d] }
  | _ => none }
def fnExactStandardAutomorphismsRow : OpenClaim := { program := "ytmfegkjjfmmoaaa", sum := "7a0a9da4386ade48a227a1c0fd41d62d22e0953ffbe6abe20310ce662b5ea76c", func := "loop.example/g01108/laws.FnExactStandardAutomorphisms", spec := "fnExactStandardAutomorphisms", plainKeys := false, apart := false }
def FnExactStandardAutomorphismsSaid : Prop := fnExactStandardAutomorphismsRow.holds Try.pinned (OpenSpec.ofChange fnExactStandardAutomorphismsSpec)

/-- ITS FALSE NEIGHBOUR: 'it returns false'. Refute it at one input. -/
def fnExactStandardAutomorphismsWrong : ChangeSpec := { name := "fnExactStandardAutomorphisms", fn := fun _ => fun
  | [d] => { results := [.lit (.bool false)], args := [d] }
  | _ => none }
def FnExactStandardAutomorphismsWrongFalsely : Prop := fnExactStandardAutomorphismsRow.holds Try.pinned (OpenSpec.ofChange fnExactStandardAutomorphismsWrong)

/-- 'laws.FnExactSymmetryType': WHATEVER THE INPUT: true; the input reads as it did. -/
def fnExactSymmetryTypeSpec : ChangeSpec := { name := "fnExactSymmetryType", fn := fun _ => fun
  | [d] => { results := [.lit (.bool true)], args := [d] }
  | _ => none }
def fnExactSymmetryTypeRow : OpenClaim := { program := "ytmfegkjjfmmoaaa", sum := "7a0a9da4386ade48a227a1c0fd41d62d22e0953ffbe6abe20310ce662b5ea76c", func := "loop.example/g01108/laws.FnExactSymmetryType", spec := "fnExactSymmetryType", plainKeys := false, apart := false }
def FnExactSymmetryTypeSaid : Prop := fnExactSymmetryTypeRow.holds Try.pinned (OpenSpec.ofChange fnExactSymmetryTypeSpec)

/-- ITS FALSE NEIGHBOUR: 'it returns false'. Refute it at one input. -/
def fnExactSymmetryTypeWrong : ChangeSpec := { name := "fnExactSymmetryType", fn := fun _ => fun
  | [d] => { results := [.lit (.bool false)], args := [d] }
  | _ => none }
def FnExactSymmetryTypeWrongFalsely : Prop := fnExactSymmetryTypeRow.holds Try.pinned (OpenSpec.ofChange fnExactSymmetryTypeWrong)

/-- 'laws.FnExactMixPairs': WHATEVER THE INPUT: true; the input reads as it did. -/
def fnExactMixPairsSpec : ChangeSpec := { name := "fnExactMixPairs", fn := fun _ => fun
  | [d1, d2, d3, d4] => { results := [.lit (.bool true)], args := [d1, d2, d3, d4] }
  | _ => none }
def fnExactMixPairsRow : OpenClaim := { program := "ytmfegkjjfmmoaaa", sum := "7a0a9da4386ade48a227a1c0fd41d62d22e0953ffbe6abe20310ce662b5ea76c", func := "loop.example/g01108/laws.FnExactMixPairs", spec := "fnExactMixPairs", plainKeys := false, apart := false }
def FnExactMixPairsSaid : Prop := fnExactMixPairsRow.holds Try.pinned (OpenSpec.ofChange fnExactMixPairsSpec)

/-- ITS FALSE NEIGHBOUR: 'it returns false'. Refute it at one input. -/
def fnExactMixPairsWrong : ChangeSpec := { name := "fnExactMixPairs", fn := fun _ => fun
  | [d1, d2, d3, d4] => { results := [.lit (.bool false)], args := [d1, d2, d3, d4] }
  | _ => none }
def FnExactMixPairsWrongFalsely : Prop := fnExactMixPairsRow.holds Try.pinned (OpenSpec.ofChange fnExactMixPairsWrong)

/-- 'laws.FnExactFibreOf': WHATEVER THE INPUT: true; the input reads as it did. -/
def fnExactFibreOfSpec : ChangeSpec := { name := "fnExactFibreOf", fn := fun _ => fun
  | [d1, d2, d3, d4] => { results := [.lit (.bool true)], args := [d1, d2, d3, d4] }
  | _ => none }
def fnExactFibreOfRow : OpenClaim := { program := "ytmfegkjjfmmoaaa", sum := "7a0a9da4386ade48a227a1c0fd41d62d22e0953ffbe6abe20310ce662b5ea76c", func := "loop.example/g01108/laws.FnExactFibreOf", spec := "fnExactFibreOf", plainKeys := false, apart := false }
def FnExactFibreOfSaid : Prop := fnExactFibreOfRow.holds Try.pinned (OpenSpec.ofChange fnExactFibreOfSpec)

/-- ITS FALSE NEIGHBOUR: 'it returns false'. Refute it at one input. -/
def fnExactFibreOfWrong : ChangeSpec := { name := "fnExactFibreOf", fn := fun _ => fun
  | [d1, d2, d3, d4] => { results := [.lit (.bool false)], args := [d1, d2, d3, d4] }
  | _ => none }
def FnExactFibreOfWrongFalsely : Prop := fnExactFibreOfRow.holds Try.pinned (OpenSpec.ofChange fnExactFibreOfWrong)

/-- 'laws.FnExactIsNormalCovering': WHATEVER THE INPUT: true; the input reads as it did. -/
def fnExactIsNormalCoveringSpec : ChangeSpec := { name := "fnExactIsNormalCovering", fn := fun _ => fun
  | [d1, d2, d3] => { results := [.lit (.bool true)], args := [d1, d2, d3] }
  | _ => none }
def fnExactIsNormalCoveringRow : OpenClaim := { program := "ytmfegkjjfmmoaaa", sum := "7a0a9da4386ade48a227a1c0fd41d62d22e0953ffbe6abe20310ce662b5ea76c", func := "loop.example/g01108/laws.FnExactIsNormalCovering", spec := "fnExactIsNormalCovering", unfollowed := true, recurses := true, plainKeys := false, apart := false }
def FnExactIsNormalCoveringSaid : Prop := fnExactIsNormalCoveringRow.holds Try.pinned (OpenSpec.ofChange fnExactIsNormalCoveringSpec)

/-- ITS FALSE NEIGHBOUR: 'it returns false'. Refute it at one input. -/
def fnExactIsNormalCoveringWrong : ChangeSpec := { name := "fnExactIsNormalCovering", fn := fun _ => fun
  | [d1, d2, d3] => { results := [.lit (.bool false)], args := [d1, d2, d3] }
  | _ => none }
def FnExactIsNormalCoveringWrongFalsely : Prop := fnExactIsNormalCoveringRow.holds Try.pinned (OpenSpec.ofChange fnExactIsNormalCoveringWrong)

/-- 'laws.FnExactWordPeriod': WHATEVER THE INPUT: true; the input reads as it did. -/
def fnExactWordPeriodSpec : ChangeSpec := { name := "fnExactWordPeriod", fn := fun _ => fun
  | [d1, d2] => { results := [.lit (.bool true)], args := [d1, d2] }
  | _ => none }
def fnExactWordPeriodRow : OpenClaim := { program := "ytmfegkjjfmmoaaa", sum := "7a0a9da4386ade48a227a1c0fd41d62d22e0953ffbe6abe20310ce662b5ea76c", func := "loop.example/g01108/laws.FnExactWordPeriod", spec := "fnExactWordPeriod", unfollowed := true, recurses := true, plainKeys := false, apart := false }
def FnExactWordPeriodSaid : Prop := fnExactWordPeriodRow.holds Try.pinned (OpenSpec.ofChange fnExactWordPeriodSpec)

/-- ITS FALSE NEIGHBOUR: 'it returns false'. Refute it at one input. -/
def fnExactWordPeriodWrong : ChangeSpec := { name := "fnExactWordPeriod", fn := fun _ => fun
  | [d1, d2] => { results := [.lit (.bool false)], args := [d1, d2] }
  | _ => none }
def FnExactWordPeriodWrongFalsely : Prop := fnExactWordPeriodRow.holds Try.pinned (OpenSpec.ofChange fnExactWordPeriodWrong)

/-- 'laws.FnExactFirstNothing': WHATEVER THE INPUT: true; the input reads as it did. -/
def fnExactFirstNothingSpec : ChangeSpec := { name := "fnExactFirstNothing", fn := fun _ => fun
  | [d1, d2, d3] => { results := [.lit (.bool true)], args := [d1, d2, d3] }
  | _ => none }
def fnExactFirstNothingRow : OpenClaim := { program := "ytmfegkjjfmmoaaa", sum := "7a0a9da4386ade48a227a1c0fd41d62d22e0953ffbe6abe20310ce662b5ea76c", func := "loop.example/g01108/laws.FnExactFirstNothing", spec := "fnExactFirstNothing", recurses := true, plainKeys := false, apart := false }
def FnExactFirstNothingSaid : Prop := fnExactFirstNothingRow.holds Try.pinned (OpenSpec.ofChange fnExactFirstNothingSpec)

/-- ITS FALSE NEIGHBOUR: 'it returns false'. Refute it at one input. -/
def fnExactFirstNothingWrong : ChangeSpec := { name := "fnExactFirstNothing", fn := fun _ => fun
  | [d1, d2, d3] => { results := [.lit (.bool false)], args := [d1, d2, d3] }
  | _ => none }
def FnExactFirstNothingWrongFalsely : Prop := fnExactFirstNothingRow.holds Try.pinned (OpenSpec.ofChange fnExactFirstNothingWrong)

/-- 'laws.FnExactFaceOrbits': WHATEVER THE INPUT: true; the input reads as it did. -/
def fnExactFaceOrbitsSpec : ChangeSpec := { name := "fnExactFaceOrbits", fn := fun _ => fun
  | [d1, d2] => { results := [.lit (.bool true)], args := [d1, d2] }
  | _ => none }
def fnExactFaceOrbitsRow : OpenClaim := { program := "ytmfegkjjfmmoaaa", sum := "7a0a9da4386ade48a227a1c0fd41d62d22e0953ffbe6abe20310ce662b5ea76c", func := "loop.example/g01108/laws.FnExactFaceOrbits", spec := "fnExactFaceOrbits", plainKeys := false, apart := false }
def FnExactFaceOrbitsSaid : Prop := fnExactFaceOrbitsRow.holds Try.pinned (OpenSpec.ofChange fnExactFaceOrbitsSpec)

/-- ITS FALSE NEIGHBOUR: 'it returns false'. Refute it at one input. -/
def fnExactFaceOrbitsWrong : ChangeSpec := { name := "fnExactFaceOrbits", fn := fun _ => fun
  | [d1, d2] => { results := [.lit (.bool false)], args := [d1, d2] }
  | _ => none }
def FnExactFaceOrbitsWrongFalsely : Prop := fnExactFaceOrbitsRow.holds Try.pinned (OpenSpec.ofChange fnExactFaceOrbitsWrong)

/-- 'laws.FnExactIsTransitiveOn': WHATEVER THE INPUT: true; the input reads as it did. -/
def fnExactIsTransitiveOnSpec : ChangeSpec := { name := "fnExactIsTransitiveOn", fn := fun _ => fun
  | [d1, d2] => { results := [.lit (.bool true)], args := [d1, d2] }
  | _ => none }
def fnExactIsTransitiveOnRow : OpenClaim := { program := "ytmfegkjjfmmoaaa", sum := "7a0a9da4386ade48a227a1c0fd41d62d22e0953ffbe6abe20310ce662b5ea76c", func := "loop.example/g01108/laws.FnExactIsTransitiveOn", spec := "fnExactIsTransitiveOn", plainKeys := false, apart := false }
def FnExactIsTransitiveOnSaid : Prop := fnExactIsTransitiveOnRow.holds Try.pinned (OpenSpec.ofChange fnExactIsTransitiveOnSpec)

/-- ITS FALSE NEIGHBOUR: 'it returns false'. Refute it at one input. -/
def fnExactIsTransitiveOnWrong : ChangeSpec := { name := "fnExactIsTransitiveOn", fn := fun _ => fun
  | [d1, d2] => { results := [.lit (.bool false)], args := [d1, d2] }
  | _ => none }
def FnExactIsTransitiveOnWrongFalsely : Prop := fnExactIsTransitiveOnRow.holds Try.pinned (OpenSpec.ofChange fnExactIsTransitiveOnWrong)

/-- 'laws.FnExactFaceMap': WHATEVER THE INPUT: true; the input reads as it did. -/
def fnExactFaceMapSpec : ChangeSpec := { name := "fnExactFaceMap", fn := fun _ => fun
  | [d1, d2, d3, d4] => { results := [.lit (.bool true)], args := [d1, d2, d3, d4] }
  | _ => none }
def fnExactFaceMapRow : OpenClaim := { program := "ytmfegkjjfmmoaaa", sum := "7a0a9da4386ade48a227a1c0fd41d62d22e0953ffbe6abe20310ce662b5ea76c", func := "loop.example/g01108/laws.FnExactFaceMap", spec := "fnExactFaceMap", plainKeys := false, apart := false }
def FnExactFaceMapSaid : Prop := fnExactFaceMapRow.holds Try.pinned (OpenSpec.ofChange fnExactFaceMapSpec)

/-- ITS FALSE NEIGHBOUR: 'it returns false'. Refute it at one input. -/
def fnExactFaceMapWrong : ChangeSpec := { name := "fnExactFaceMap", fn := fun _ => fun
  | [d1, d2, d3, d4] => { results := [.lit (.bool false)], args := [d1, d2, d3, d4] }
  | _ => none }
def FnExactFaceMapWrongFalsely : Prop := fnExactFaceMapRow.holds Try.pinned (OpenSpec.ofChange fnExactFaceMapWrong)

/-- 'laws.FnExactStabilizerOf': WHATEVER THE INPUT: true; the input reads as it did. -/
def fnExactStabilizerOfSpec : ChangeSpec := { name := "fnExactStabilizerOf", fn := fun _ => fun
  | [d1, d2, d3] => { results := [.lit (.bool true)], args := [d1, d2, d3] }
  | _ => none }
def fnExactStabilizerOfRow : OpenClaim := { program := "ytmfegkjjfmmoaaa", sum := "7a0a9da4386ade48a227a1c0fd41d62d22e0953ffbe6abe20310ce662b5ea76c", func := "loop.example/g01108/laws.FnExactStabilizerOf", spec := "fnExactStabilizerOf", unfollowed := true, recurses := true, plainKeys := false, apart := false }
def FnExactStabilizerOfSaid : Prop := fnExactStabilizerOfRow.holds Try.pinned (OpenSpec.ofChange fnExactStabilizerOfSpec)

/-- ITS FALSE NEIGHBOUR: 'it returns false'. Refute it at one input. -/
def fnExactStabilizerOfWrong : ChangeSpec := { name := "fnExactStabilizerOf", fn := fun _ => fun
  | [d1, d2, d3] => { results := [.lit (.bool false)], args := [d1, d2, d3] }
  | _ => none }
def FnExactStabilizerOfWrongFalsely : Prop := fnExactStabilizerOfRow.holds Try.pinned (OpenSpec.ofChange fnExactStabilizerOfWrong)

/- THE SECOND FORM. 'bulk': how many values and letters a reading holds, each counted each time it is reached (what is shared counts as often as it is met; a slice's spare places count too). A statement '..UptoSaid' is the law's where the arguments, and the package variables that the reading takes, are together of bulk at most 1048576: NARROWER than '..Said'. Prove '..Said' where nothing that the law and all that it calls make is longer than what came in: it says more and counts as full. Else prove '..UptoSaid'. A law counts once. -/
mutual
def uptoBulk {H : Type} : DataW H → Nat
  | .lit (.string bytes) => bytes.length + 1
  | .lit _ => 1
  | .nil => 1
  | .ptr d => uptoBulk d + 1
  | .slice elems spare => uptoBulkAll elems + uptoBulkAll spare + 1
  | .agg parts => uptoBulkAll parts + 1
  | .iface _ d => uptoBulk d + 1
  | .map entries => uptoBulkEntries entries + 1
  | .held _ => 1
def uptoBulkAll {H : Type} : List (DataW H) → Nat
  | [] => 0
  | d :: r => uptoBulk d + uptoBulkAll r
def uptoBulkEntries {H : Type} : List (Lit × DataW H) → Nat
  | [] => 0
  | x :: r => uptoBulkEntry x + uptoBulkEntries r
def uptoBulkEntry {H : Type} : Lit × DataW H → Nat
  | (.string bytes, d) => bytes.length + uptoBulk d + 1
  | (_, d) => uptoBulk d + 1
 end
def uptoSmall : (H : Type) → List (DataW H) → Bool := fun _ ds => decide (uptoBulkAll ds ≤ 1048576)
def OpenSpec.upto (s : _root_.Go.ChangeSpec) : _root_.Go.OpenSpec := { _root_.Go.OpenSpec.ofChange s with cond := some uptoSmall }

/-- 'laws.FnExactPetrieLengths', WHERE WHAT IT READS IS OF BULK AT MOST 1048576: true; the input reads as it did. -/
def fnExactPetrieLengthsUptoRow : OpenClaim := { program := "ytmfegkjjfmmoaaa", sum := "7a0a9da4386ade48a227a1c0fd41d62d22e0953ffbe6abe20310ce662b5ea76c", func := "loop.example/g01108/laws.FnExactPetrieLengths", spec := "fnExactPetrieLengths", plainKeys := false, apart := false, narrowed := true }
def FnExactPetrieLengthsUptoSaid : Prop := fnExactPetrieLengthsUptoRow.holds Try.pinned (OpenSpec.upto fnExactPetrieLengthsSpec)

/-- 'laws.FnExactStandardAutomorphisms', WHERE WHAT IT READS IS OF BULK AT MOST 1048576: true; the input reads as it did. -/
def fnExactStandardAutomorphismsUptoRow : OpenClaim := { program := "ytmfegkjjfmmoaaa", sum := "7a0a9da4386ade48a227a1c0fd41d62d22e0953ffbe6abe20310ce662b5ea76c", func := "loop.example/g01108/laws.FnExactStandardAutomorphisms", spec := "fnExactStandardAutomorphisms", plainKeys := false, apart := false, narrowed := true }
def FnExactStandardAutomorphismsUptoSaid : Prop := fnExactStandardAutomorphismsUptoRow.holds Try.pinned (OpenSpec.upto fnExactStandardAutomorphismsSpec)

/-- 'laws.FnExactSymmetryType', WHERE WHAT IT READS IS OF BULK AT MOST 1048576: true; the input reads as it did. -/
def fnExactSymmetryTypeUptoRow : OpenClaim := { program := "ytmfegkjjfmmoaaa", sum := "7a0a9da4386ade48a227a1c0fd41d62d22e0953ffbe6abe20310ce662b5ea76c", func := "loop.example/g01108/laws.FnExactSymmetryType", spec := "fnExactSymmetryType", plainKeys := false, apart := false, narrowed := true }
def FnExactSymmetryTypeUptoSaid : Prop := fnExactSymmetryTypeUptoRow.holds Try.pinned (OpenSpec.upto fnExactSymmetryTypeSpec)

/-- 'laws.FnExactMixPairs', WHERE WHAT IT READS IS OF BULK AT MOST 1048576: true; the input reads as it did. -/
def fnExactMixPairsUptoRow : OpenClaim := { program := "ytmfegkjjfmmoaaa", sum := "7a0a9da4386ade48a227a1c0fd41d62d22e0953ffbe6abe20310ce662b5ea76c", func := "loop.example/g01108/laws.FnExactMixPairs", spec := "fnExactMixPairs", plainKeys := false, apart := false, narrowed := true }
def FnExactMixPairsUptoSaid : Prop := fnExactMixPairsUptoRow.holds Try.pinned (OpenSpec.upto fnExactMixPairsSpec)

/-- 'laws.FnExactFibreOf', WHERE WHAT IT READS IS OF BULK AT MOST 1048576: true; the input reads as it did. -/
def fnExactFibreOfUptoRow : OpenClaim := { program := "ytmfegkjjfmmoaaa", sum := "7a0a9da4386ade48a227a1c0fd41d62d22e0953ffbe6abe20310ce662b5ea76c", func := "loop.example/g01108/laws.FnExactFibreOf", spec := "fnExactFibreOf", plainKeys := false, apart := false, narrowed := true }
def FnExactFibreOfUptoSaid : Prop := fnExactFibreOfUptoRow.holds Try.pinned (OpenSpec.upto fnExactFibreOfSpec)

/-- 'laws.FnExactIsNormalCovering', WHERE WHAT IT READS IS OF BULK AT MOST 1048576: true; the input reads as it did. -/
def fnExactIsNormalCoveringUptoRow : OpenClaim := { program := "ytmfegkjjfmmoaaa", sum := "7a0a9da4386ade48a227a1c0fd41d62d22e0953ffbe6abe20310ce662b5ea76c", func := "loop.example/g01108/laws.FnExactIsNormalCovering", spec := "fnExactIsNormalCovering", unfollowed := true, recurses := true, plainKeys := false, apart := false, narrowed := true }
def FnExactIsNormalCoveringUptoSaid : Prop := fnExactIsNormalCoveringUptoRow.holds Try.pinned (OpenSpec.upto fnExactIsNormalCoveringSpec)

/-- 'laws.FnExactWordPeriod', WHERE WHAT IT READS IS OF BULK AT MOST 1048576: true; the input reads as it did. -/
def fnExactWordPeriodUptoRow : OpenClaim := { program := "ytmfegkjjfmmoaaa", sum := "7a0a9da4386ade48a227a1c0fd41d62d22e0953ffbe6abe20310ce662b5ea76c", func := "loop.example/g01108/laws.FnExactWordPeriod", spec := "fnExactWordPeriod", unfollowed := true, recurses := true, plainKeys := false, apart := false, narrowed := true }
def FnExactWordPeriodUptoSaid : Prop := fnExactWordPeriodUptoRow.holds Try.pinned (OpenSpec.upto fnExactWordPeriodSpec)

/-- 'laws.FnExactFirstNothing', WHERE WHAT IT READS IS OF BULK AT MOST 1048576: true; the input reads as it did. -/
def fnExactFirstNothingUptoRow : OpenClaim := { program := "ytmfegkjjfmmoaaa", sum := "7a0a9da4386ade48a227a1c0fd41d62d22e0953ffbe6abe20310ce662b5ea76c", func := "loop.example/g01108/laws.FnExactFirstNothing", spec := "fnExactFirstNothing", recurses := true, plainKeys := false, apart := false, narrowed := true }
def FnExactFirstNothingUptoSaid : Prop := fnExactFirstNothingUptoRow.holds Try.pinned (OpenSpec.upto fnExactFirstNothingSpec)

/-- 'laws.FnExactFaceOrbits', WHERE WHAT IT READS IS OF BULK AT MOST 1048576: true; the input reads as it did. -/
def fnExactFaceOrbitsUptoRow : OpenClaim := { program := "ytmfegkjjfmmoaaa", sum := "7a0a9da4386ade48a227a1c0fd41d62d22e0953ffbe6abe20310ce662b5ea76c", func := "loop.example/g01108/laws.FnExactFaceOrbits", spec := "fnExactFaceOrbits", plainKeys := false, apart := false, narrowed := true }
def FnExactFaceOrbitsUptoSaid : Prop := fnExactFaceOrbitsUptoRow.holds Try.pinned (OpenSpec.upto fnExactFaceOrbitsSpec)

/-- 'laws.FnExactIsTransitiveOn', WHERE WHAT IT READS IS OF BULK AT MOST 1048576: true; the input reads as it did. -/
def fnExactIsTransitiveOnUptoRow : OpenClaim := { program := "ytmfegkjjfmmoaaa", sum := "7a0a9da4386ade48a227a1c0fd41d62d22e0953ffbe6abe20310ce662b5ea76c", func := "loop.example/g01108/laws.FnExactIsTransitiveOn", spec := "fnExactIsTransitiveOn", plainKeys := false, apart := false, narrowed := true }
def FnExactIsTransitiveOnUptoSaid : Prop := fnExactIsTransitiveOnUptoRow.holds Try.pinned (OpenSpec.upto fnExactIsTransitiveOnSpec)

/-- 'laws.FnExactFaceMap', WHERE WHAT IT READS IS OF BULK AT MOST 1048576: true; the input reads as it did. -/
def fnExactFaceMapUptoRow : OpenClaim := { program := "ytmfegkjjfmmoaaa", sum := "7a0a9da4386ade48a227a1c0fd41d62d22e0953ffbe6abe20310ce662b5ea76c", func := "loop.example/g01108/laws.FnExactFaceMap", spec := "fnExactFaceMap", plainKeys := false, apart := false, narrowed := true }
def FnExactFaceMapUptoSaid : Prop := fnExactFaceMapUptoRow.holds Try.pinned (OpenSpec.upto fnExactFaceMapSpec)

/-- 'laws.FnExactStabilizerOf', WHERE WHAT IT READS IS OF BULK AT MOST 1048576: true; the input reads as it did. -/
def fnExactStabilizerOfUptoRow : OpenClaim := { program := "ytmfegkjjfmmoaaa", sum := "7a0a9da4386ade48a227a1c0fd41d62d22e0953ffbe6abe20310ce662b5ea76c", func := "loop.example/g01108/laws.FnExactStabilizerOf", spec := "fnExactStabilizerOf", unfollowed := true, recurses := true, plainKeys := false, apart := false, narrowed := true }
def FnExactStabilizerOfUptoSaid : Prop := fnExactStabilizerOfUptoRow.holds Try.pinned (OpenSpec.upto fnExactStabilizerOfSpec)

end Rows
end Go.Proofs.Ytmfegkjjfmmoaaa
