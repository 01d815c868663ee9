/-
  No cell of these rows narrows 'for every input' (looked for: loops, veiled, ifaces, maps, wideKeys, modest, calm, conditions, laid).
  DERIVED. THE GIVEN ROWS OF THIS SEAT. 12 by the template 'for every input the law returns true; each argument reads behind the call as it read before'; 0 by the template 'total and deterministic' (their statements: YtebcaajlkealoaaTotals.lean).
  GIVEN WITH THE SEED: the statements are not yours to turn. If you find one false, say at which input.
  Laid BY PROGRAM, IN A SANDBOX (cutbox-rows.mjs): the forced cells as the released guide's own fill.sh prints them over the translation 66ed136d7a68a151… (all of the seat's roots in one cut). By AI agents, Wed Nov 11 2026. No macro, syntax, notation, axiom, sorry.
-/
import Derived.Test.YtebcaajlkealoaaChecked
import GoSem.Claim
import GoSem.ClaimJoined
import GoSem.ClaimMapViews
import Derived.JoinedTies
import Derived.KernelRfl
namespace Go.Proofs.Ytebcaajlkealoaa
/- THE CELL 'sum', in the pinned program and in every row, IS THE sha256 OF THE DUMP (.gsa) THAT YtebcaajlkealoaaProg.lean LOADS. Nothing in Lean hashes anything: it is a label: what it is worth is what the hold of that sum in a sandbox is worth. -/
noncomputable def Try.pinned : Pinned := { name := "ytebcaajlkealoaa", sum := "66ed136d7a68a151b0cec596a6d85a12f9fcc313ee4fa4fc44726220b2dadf79", checked := Try.checked }
namespace Rows
def none {H : Type} : Left H := { results := [], args := [] }

/-- 'laws.FnExactIsRegular': WHATEVER THE INPUT: true; the input reads as it did. -/
def fnExactIsRegularSpec : ChangeSpec := { name := "fnExactIsRegular", fn := fun _ => fun
  | [d] => { results := [.lit (.bool true)], args := [d] }
  | _ => none }
def fnExactIsRegularRow : OpenClaim := { program := "ytebcaajlkealoaa", sum := "66ed136d7a68a151b0cec596a6d85a12f9fcc313ee4fa4fc44726220b2dadf79", func := "loop.example/g01108/laws.FnExactIsRegular", spec := "fnExactIsRegular", apart := false }
def FnExactIsRegularSaid : Prop := fnExactIsRegularRow.holds Try.pinned (OpenSpec.ofChange fnExactIsRegularSpec)

/-- ITS FALSE NEIGHBOUR: 'it returns false'. Refute it at one input. -/
def fnExactIsRegularWrong : ChangeSpec := { name := "fnExactIsRegular", fn := fun _ => fun
  | [d] => { results := [.lit (.bool false)], args := [d] }
  | _ => none }
def FnExactIsRegularWrongFalsely : Prop := fnExactIsRegularRow.holds Try.pinned (OpenSpec.ofChange fnExactIsRegularWrong)

/-- 'laws.FnExactCountCoverings': WHATEVER THE INPUT: true; the input reads as it did. -/
def fnExactCountCoveringsSpec : ChangeSpec := { name := "fnExactCountCoverings", fn := fun _ => fun
  | [d1, d2] => { results := [.lit (.bool true)], args := [d1, d2] }
  | _ => none }
def fnExactCountCoveringsRow : OpenClaim := { program := "ytebcaajlkealoaa", sum := "66ed136d7a68a151b0cec596a6d85a12f9fcc313ee4fa4fc44726220b2dadf79", func := "loop.example/g01108/laws.FnExactCountCoverings", spec := "fnExactCountCoverings", apart := false }
def FnExactCountCoveringsSaid : Prop := fnExactCountCoveringsRow.holds Try.pinned (OpenSpec.ofChange fnExactCountCoveringsSpec)

/-- ITS FALSE NEIGHBOUR: 'it returns false'. Refute it at one input. -/
def fnExactCountCoveringsWrong : ChangeSpec := { name := "fnExactCountCoverings", fn := fun _ => fun
  | [d1, d2] => { results := [.lit (.bool false)], args := [d1, d2] }
  | _ => none }
def FnExactCountCoveringsWrongFalsely : Prop := fnExactCountCoveringsRow.holds Try.pinned (OpenSpec.ofChange fnExactCountCoveringsWrong)

/-- 'laws.FnExactAreCovered': WHATEVER THE INPUT: true; the input reads as it did. -/
def fnExactAreCoveredSpec : ChangeSpec := { name := "fnExactAreCovered", fn := fun _ => fun
  | [d1, d2] => { results := [.lit (.bool true)], args := [d1, d2] }
  | _ => none }
def fnExactAreCoveredRow : OpenClaim := { program := "ytebcaajlkealoaa", sum := "66ed136d7a68a151b0cec596a6d85a12f9fcc313ee4fa4fc44726220b2dadf79", func := "loop.example/g01108/laws.FnExactAreCovered", spec := "fnExactAreCovered", apart := false }
def FnExactAreCoveredSaid : Prop := fnExactAreCoveredRow.holds Try.pinned (OpenSpec.ofChange fnExactAreCoveredSpec)

/-- ITS FALSE NEIGHBOUR: 'it returns false'. Refute it at one input. -/
def fnExactAreCoveredWrong : ChangeSpec := { name := "fnExactAreCovered", fn := fun _ => fun
  | [d1, d2] => { results := [.lit (.bool false)], args := [d1, d2] }
  | _ => none }
def FnExactAreCoveredWrongFalsely : Prop := fnExactAreCoveredRow.holds Try.pinned (OpenSpec.ofChange fnExactAreCoveredWrong)

/-- 'laws.FnExactAreIsomorphic': WHATEVER THE INPUT: true; the input reads as it did. -/
def fnExactAreIsomorphicSpec : ChangeSpec := { name := "fnExactAreIsomorphic", fn := fun _ => fun
  | [d1, d2] => { results := [.lit (.bool true)], args := [d1, d2] }
  | _ => none }
def fnExactAreIsomorphicRow : OpenClaim := { program := "ytebcaajlkealoaa", sum := "66ed136d7a68a151b0cec596a6d85a12f9fcc313ee4fa4fc44726220b2dadf79", func := "loop.example/g01108/laws.FnExactAreIsomorphic", spec := "fnExactAreIsomorphic", apart := false }
def FnExactAreIsomorphicSaid : Prop := fnExactAreIsomorphicRow.holds Try.pinned (OpenSpec.ofChange fnExactAreIsomorphicSpec)

/-- ITS FALSE NEIGHBOUR: 'it returns false'. Refute it at one input. -/
def fnExactAreIsomorphicWrong : ChangeSpec := { name := "fnExactAreIsomorphic", fn := fun _ => fun
  | [d1, d2] => { results := [.lit (.bool false)], args := [d1, d2] }
  | _ => none }
def FnExactAreIsomorphicWrongFalsely : Prop := fnExactAreIsomorphicRow.holds Try.pinned (OpenSpec.ofChange fnExactAreIsomorphicWrong)

/-- 'laws.FnExactDoesNothing': WHATEVER THE INPUT: true; the input reads as it did. -/
def fnExactDoesNothingSpec : ChangeSpec := { name := "fnExactDoesNothing", fn := fun _ => fun
  | [d1, d2] => { results := [.lit (.bool true)], args := [d1, d2] }
  | _ => none }
def fnExactDoesNothingRow : OpenClaim := { program := "ytebcaajlkealoaa", sum := "66ed136d7a68a151b0cec596a6d85a12f9fcc313ee4fa4fc44726220b2dadf79", func := "loop.example/g01108/laws.FnExactDoesNothing", spec := "fnExactDoesNothing", unfollowed := true, recurses := true, apart := false }
def FnExactDoesNothingSaid : Prop := fnExactDoesNothingRow.holds Try.pinned (OpenSpec.ofChange fnExactDoesNothingSpec)

/-- ITS FALSE NEIGHBOUR: 'it returns false'. Refute it at one input. -/
def fnExactDoesNothingWrong : ChangeSpec := { name := "fnExactDoesNothing", fn := fun _ => fun
  | [d1, d2] => { results := [.lit (.bool false)], args := [d1, d2] }
  | _ => none }
def FnExactDoesNothingWrongFalsely : Prop := fnExactDoesNothingRow.holds Try.pinned (OpenSpec.ofChange fnExactDoesNothingWrong)

/-- 'laws.FnExactAutomorphismTo': WHATEVER THE INPUT: true; the input reads as it did. -/
def fnExactAutomorphismToSpec : ChangeSpec := { name := "fnExactAutomorphismTo", fn := fun _ => fun
  | [d1, d2] => { results := [.lit (.bool true)], args := [d1, d2] }
  | _ => none }
def fnExactAutomorphismToRow : OpenClaim := { program := "ytebcaajlkealoaa", sum := "66ed136d7a68a151b0cec596a6d85a12f9fcc313ee4fa4fc44726220b2dadf79", func := "loop.example/g01108/laws.FnExactAutomorphismTo", spec := "fnExactAutomorphismTo", apart := false }
def FnExactAutomorphismToSaid : Prop := fnExactAutomorphismToRow.holds Try.pinned (OpenSpec.ofChange fnExactAutomorphismToSpec)

/-- ITS FALSE NEIGHBOUR: 'it returns false'. Refute it at one input. -/
def fnExactAutomorphismToWrong : ChangeSpec := { name := "fnExactAutomorphismTo", fn := fun _ => fun
  | [d1, d2] => { results := [.lit (.bool false)], args := [d1, d2] }
  | _ => none }
def FnExactAutomorphismToWrongFalsely : Prop := fnExactAutomorphismToRow.holds Try.pinned (OpenSpec.ofChange fnExactAutomorphismToWrong)

/-- 'laws.FnExactIsCovering': WHATEVER THE INPUT: true; the input reads as it did. -/
def fnExactIsCoveringSpec : ChangeSpec := { name := "fnExactIsCovering", fn := fun _ => fun
  | [d1, d2, d3] => { results := [.lit (.bool true)], args := [d1, d2, d3] }
  | _ => none }
def fnExactIsCoveringRow : OpenClaim := { program := "ytebcaajlkealoaa", sum := "66ed136d7a68a151b0cec596a6d85a12f9fcc313ee4fa4fc44726220b2dadf79", func := "loop.example/g01108/laws.FnExactIsCovering", spec := "fnExactIsCovering", apart := false }
def FnExactIsCoveringSaid : Prop := fnExactIsCoveringRow.holds Try.pinned (OpenSpec.ofChange fnExactIsCoveringSpec)

/-- ITS FALSE NEIGHBOUR: 'it returns false'. Refute it at one input. -/
def fnExactIsCoveringWrong : ChangeSpec := { name := "fnExactIsCovering", fn := fun _ => fun
  | [d1, d2, d3] => { results := [.lit (.bool false)], args := [d1, d2, d3] }
  | _ => none }
def FnExactIsCoveringWrongFalsely : Prop := fnExactIsCoveringRow.holds Try.pinned (OpenSpec.ofChange fnExactIsCoveringWrong)

/-- 'laws.FnExactAutomorphismsOf': WHATEVER THE INPUT: true; the input reads as it did. -/
def fnExactAutomorphismsOfSpec : ChangeSpec := { name := "fnExactAutomorphismsOf", fn := fun _ => fun
  | [d] => { results := [.lit (.bool true)], args := [d] }
  | _ => none }
def fnExactAutomorphismsOfRow : OpenClaim := { program := "ytebcaajlkealoaa", sum := "66ed136d7a68a151b0cec596a6d85a12f9fcc313ee4fa4fc44726220b2dadf79", func := "loop.example/g01108/laws.FnExactAutomorphismsOf", spec := "fnExactAutomorphismsOf", apart := false }
def FnExactAutomorphismsOfSaid : Prop := fnExactAutomorphismsOfRow.holds Try.pinned (OpenSpec.ofChange fnExactAutomorphismsOfSpec)

/-- ITS FALSE NEIGHBOUR: 'it returns false'. Refute it at one input. -/
def fnExactAutomorphismsOfWrong : ChangeSpec := { name := "fnExactAutomorphismsOf", fn := fun _ => fun
  | [d] => { results := [.lit (.bool false)], args := [d] }
  | _ => none }
def FnExactAutomorphismsOfWrongFalsely : Prop := fnExactAutomorphismsOfRow.holds Try.pinned (OpenSpec.ofChange fnExactAutomorphismsOfWrong)

/-- 'laws.FnExactCoveringOf': WHATEVER THE INPUT: true; the input reads as it did. -/
def fnExactCoveringOfSpec : ChangeSpec := { name := "fnExactCoveringOf", fn := fun _ => fun
  | [d1, d2] => { results := [.lit (.bool true)], args := [d1, d2] }
  | _ => none }
def fnExactCoveringOfRow : OpenClaim := { program := "ytebcaajlkealoaa", sum := "66ed136d7a68a151b0cec596a6d85a12f9fcc313ee4fa4fc44726220b2dadf79", func := "loop.example/g01108/laws.FnExactCoveringOf", spec := "fnExactCoveringOf", apart := false }
def FnExactCoveringOfSaid : Prop := fnExactCoveringOfRow.holds Try.pinned (OpenSpec.ofChange fnExactCoveringOfSpec)

/-- ITS FALSE NEIGHBOUR: 'it returns false'. Refute it at one input. -/
def fnExactCoveringOfWrong : ChangeSpec := { name := "fnExactCoveringOf", fn := fun _ => fun
  | [d1, d2] => { results := [.lit (.bool false)], args := [d1, d2] }
  | _ => none }
def FnExactCoveringOfWrongFalsely : Prop := fnExactCoveringOfRow.holds Try.pinned (OpenSpec.ofChange fnExactCoveringOfWrong)

/-- 'laws.FnExactFlagOrbits': WHATEVER THE INPUT: true; the input reads as it did. -/
def fnExactFlagOrbitsSpec : ChangeSpec := { name := "fnExactFlagOrbits", fn := fun _ => fun
  | [d] => { results := [.lit (.bool true)], args := [d] }
  | _ => none }
def fnExactFlagOrbitsRow : OpenClaim := { program := "ytebcaajlkealoaa", sum := "66ed136d7a68a151b0cec596a6d85a12f9fcc313ee4fa4fc44726220b2dadf79", func := "loop.example/g01108/laws.FnExactFlagOrbits", spec := "fnExactFlagOrbits", apart := false }
def FnExactFlagOrbitsSaid : Prop := fnExactFlagOrbitsRow.holds Try.pinned (OpenSpec.ofChange fnExactFlagOrbitsSpec)

/-- ITS FALSE NEIGHBOUR: 'it returns false'. Refute it at one input. -/
def fnExactFlagOrbitsWrong : ChangeSpec := { name := "fnExactFlagOrbits", fn := fun _ => fun
  | [d] => { results := [.lit (.bool false)], args := [d] }
  | _ => none }
def FnExactFlagOrbitsWrongFalsely : Prop := fnExactFlagOrbitsRow.holds Try.pinned (OpenSpec.ofChange fnExactFlagOrbitsWrong)

/-- 'laws.FnExactIsChiral': WHATEVER THE INPUT: true; the input reads as it did. -/
def fnExactIsChiralSpec : ChangeSpec := { name := "fnExactIsChiral", fn := fun _ => fun
  | [d] => { results := [.lit (.bool true)], args := [d] }
  | _ => none }
def fnExactIsChiralRow : OpenClaim := { program := "ytebcaajlkealoaa", sum := "66ed136d7a68a151b0cec596a6d85a12f9fcc313ee4fa4fc44726220b2dadf79", func := "loop.example/g01108/laws.FnExactIsChiral", spec := "fnExactIsChiral", apart := false }
def FnExactIsChiralSaid : Prop := fnExactIsChiralRow.holds Try.pinned (OpenSpec.ofChange fnExactIsChiralSpec)

/-- ITS FALSE NEIGHBOUR: 'it returns false'. Refute it at one input. -/
def fnExactIsChiralWrong : ChangeSpec := { name := "fnExactIsChiral", fn := fun _ => fun
  | [d] => { results := [.lit (.bool false)], args := [d] }
  | _ => none }
def FnExactIsChiralWrongFalsely : Prop := fnExactIsChiralRow.holds Try.pinned (OpenSpec.ofChange fnExactIsChiralWrong)

/-- 'laws.FnExactIsomorphismOf': WHATEVER THE INPUT: true; the input reads as it did. -/
def fnExactIsomorphismOfSpec : ChangeSpec := { name := "fnExactIsomorphismOf", fn := fun _ => fun
  | [d1, d2] => { results := [.lit (.bool true)], args := [d1, d2] }
  | _ => none }
def fnExactIsomorphismOfRow : OpenClaim := { program := "ytebcaajlkealoaa", sum := "66ed136d7a68a151b0cec596a6d85a12f9fcc313ee4fa4fc44726220b2dadf79", func := "loop.example/g01108/laws.FnExactIsomorphismOf", spec := "fnExactIsomorphismOf", apart := false }
def FnExactIsomorphismOfSaid : Prop := fnExactIsomorphismOfRow.holds Try.pinned (OpenSpec.ofChange fnExactIsomorphismOfSpec)

/-- ITS FALSE NEIGHBOUR: 'it returns false'. Refute it at one input. -/
def fnExactIsomorphismOfWrong : ChangeSpec := { name := "fnExactIsomorphismOf", fn := fun _ => fun
  | [d1, d2] => { results := [.lit (.bool false)], args := [d1, d2] }
  | _ => none }
def FnExactIsomorphismOfWrongFalsely : Prop := fnExactIsomorphismOfRow.holds Try.pinned (OpenSpec.ofChange fnExactIsomorphismOfWrong)

/- THE SECOND FORM. 'bulk': how many values and letters a reading holds, each counted each time it is reached (what is shared counts as often as it is met; a slice's spare places count too). A statement '..UptoSaid' is the law's where the arguments, and the package variables that the reading takes, are together of bulk at most 1048576: NARROWER than '..Said'. Prove '..Said' where nothing that the law and all that it calls make is longer than what came in: it says more and counts as full. Else prove '..UptoSaid'. A law counts once. -/
mutual
def uptoBulk {H : Type} : DataW H → Nat
  | .lit (.string bytes) => bytes.length + 1
  | .lit _ => 1
  | .nil => 1
  | .ptr d => uptoBulk d + 1
  | .slice elems spare => uptoBulkAll elems + uptoBulkAll spare + 1
  | .agg parts => uptoBulkAll parts + 1
  | .iface _ d => uptoBulk d + 1
  | .map entries => uptoBulkEntries entries + 1
  | .held _ => 1
def uptoBulkAll {H : Type} : List (DataW H) → Nat
  | [] => 0
  | d :: r => uptoBulk d + uptoBulkAll r
def uptoBulkEntries {H : Type} : List (Lit × DataW H) → Nat
  | [] => 0
  | x :: r => uptoBulkEntry x + uptoBulkEntries r
def uptoBulkEntry {H : Type} : Lit × DataW H → Nat
  | (.string bytes, d) => bytes.length + uptoBulk d + 1
  | (_, d) => uptoBulk d + 1
 end
def uptoSmall : (H : Type) → List (DataW H) → Bool := fun _ ds => decide (uptoBulkAll ds ≤ 1048576)
def OpenSpec.upto (s : _root_.Go.ChangeSpec) : _root_.Go.OpenSpec := { _root_.Go.OpenSpec.ofChange s with cond := some uptoSmall }

/-- 'laws.FnExactIsRegular', WHERE WHAT IT READS IS OF BULK AT MOST 1048576: true; the input reads as it did. -/
def fnExactIsRegularUptoRow : OpenClaim := { program := "ytebcaajlkealoaa", sum := "66ed136d7a68a151b0cec596a6d85a12f9fcc313ee4fa4fc44726220b2dadf79", func := "loop.example/g01108/laws.FnExactIsRegular", spec := "fnExactIsRegular", apart := false, narrowed := true }
def FnExactIsRegularUptoSaid : Prop := fnExactIsRegularUptoRow.holds Try.pinned (OpenSpec.upto fnExactIsRegularSpec)

/-- 'laws.FnExactCountCoverings', WHERE WHAT IT READS IS OF BULK AT MOST 1048576: true; the input reads as it did. -/
def fnExactCountCoveringsUptoRow : OpenClaim := { program := "ytebcaajlkealoaa", sum := "66ed136d7a68a151b0cec596a6d85a12f9fcc313ee4fa4fc44726220b2dadf79", func := "loop.example/g01108/laws.FnExactCountCoverings", spec := "fnExactCountCoverings", apart := false, narrowed := true }
def FnExactCountCoveringsUptoSaid : Prop := fnExactCountCoveringsUptoRow.holds Try.pinned (OpenSpec.upto fnExactCountCoveringsSpec)

/-- 'laws.FnExactAreCovered', WHERE WHAT IT READS IS OF BULK AT MOST 1048576: true; the input reads as it did. -/
def fnExactAreCoveredUptoRow : OpenClaim := { program := "ytebcaajlkealoaa", sum := "66ed136d7a68a151b0cec596a6d85a12f9fcc313ee4fa4fc44726220b2dadf79", func := "loop.example/g01108/laws.FnExactAreCovered", spec := "fnExactAreCovered", apart := false, narrowed := true }
def FnExactAreCoveredUptoSaid : Prop := fnExactAreCoveredUptoRow.holds Try.pinned (OpenSpec.upto fnExactAreCoveredSpec)

/-- 'laws.FnExactAreIsomorphic', WHERE WHAT IT READS IS OF BULK AT MOST 1048576: true; the input reads as it did. -/
def fnExactAreIsomorphicUptoRow : OpenClaim := { program := "ytebcaajlkealoaa", sum := "66ed136d7a68a151b0cec596a6d85a12f9fcc313ee4fa4fc44726220b2dadf79", func := "loop.example/g01108/laws.FnExactAreIsomorphic", spec := "fnExactAreIsomorphic", apart := false, narrowed := true }
def FnExactAreIsomorphicUptoSaid : Prop := fnExactAreIsomorphicUptoRow.holds Try.pinned (OpenSpec.upto fnExactAreIsomorphicSpec)

/-- 'laws.FnExactDoesNothing', WHERE WHAT IT READS IS OF BULK AT MOST 1048576: true; the input reads as it did. -/
def fnExactDoesNothingUptoRow : OpenClaim := { program := "ytebcaajlkealoaa", sum := "66ed136d7a68a151b0cec596a6d85a12f9fcc313ee4fa4fc44726220b2dadf79", func := "loop.example/g01108/laws.FnExactDoesNothing", spec := "fnExactDoesNothing", unfollowed := true, recurses := true, apart := false, narrowed := true }
def FnExactDoesNothingUptoSaid : Prop := fnExactDoesNothingUptoRow.holds Try.pinned (OpenSpec.upto fnExactDoesNothingSpec)

/-- 'laws.FnExactAutomorphismTo', WHERE WHAT IT READS IS OF BULK AT MOST 1048576: true; the input reads as it did. -/
def fnExactAutomorphismToUptoRow : OpenClaim := { program := "ytebcaajlkealoaa", sum := "66ed136d7a68a151b0cec596a6d85a12f9fcc313ee4fa4fc44726220b2dadf79", func := "loop.example/g01108/laws.FnExactAutomorphismTo", spec := "fnExactAutomorphismTo", apart := false, narrowed := true }
def FnExactAutomorphismToUptoSaid : Prop := fnExactAutomorphismToUptoRow.holds Try.pinned (OpenSpec.upto fnExactAutomorphismToSpec)

/-- 'laws.FnExactIsCovering', WHERE WHAT IT READS IS OF BULK AT MOST 1048576: true; the input reads as it did. -/
def fnExactIsCoveringUptoRow : OpenClaim := { program := "ytebcaajlkealoaa", sum := "66ed136d7a68a151b0cec596a6d85a12f9fcc313ee4fa4fc44726220b2dadf79", func := "loop.example/g01108/laws.FnExactIsCovering", spec := "fnExactIsCovering", apart := false, narrowed := true }
def FnExactIsCoveringUptoSaid : Prop := fnExactIsCoveringUptoRow.holds Try.pinned (OpenSpec.upto fnExactIsCoveringSpec)

/-- 'laws.FnExactAutomorphismsOf', WHERE WHAT IT READS IS OF BULK AT MOST 1048576: true; the input reads as it did. -/
def fnExactAutomorphismsOfUptoRow : OpenClaim := { program := "ytebcaajlkealoaa", sum := "66ed136d7a68a151b0cec596a6d85a12f9fcc313ee4fa4fc44726220b2dadf79", func := "loop.example/g01108/laws.FnExactAutomorphismsOf", spec := "fnExactAutomorphismsOf", apart := false, narrowed := true }
def FnExactAutomorphismsOfUptoSaid : Prop := fnExactAutomorphismsOfUptoRow.holds Try.pinned (OpenSpec.upto fnExactAutomorphismsOfSpec)

/-- 'laws.FnExactCoveringOf', WHERE WHAT IT READS IS OF BULK AT MOST 1048576: true; the input reads as it did. -/
def fnExactCoveringOfUptoRow : OpenClaim := { program := "ytebcaajlkealoaa", sum := "66ed136d7a68a151b0cec596a6d85a12f9fcc313ee4fa4fc44726220b2dadf79", func := "loop.example/g01108/laws.FnExactCoveringOf", spec := "fnExactCoveringOf", apart := false, narrowed := true }
def FnExactCoveringOfUptoSaid : Prop := fnExactCoveringOfUptoRow.holds Try.pinned (OpenSpec.upto fnExactCoveringOfSpec)

/-- 'laws.FnExactFlagOrbits', WHERE WHAT IT READS IS OF BULK AT MOST 1048576: true; the input reads as it did. -/
def fnExactFlagOrbitsUptoRow : OpenClaim := { program := "ytebcaajlkealoaa", sum := "66ed136d7a68a151b0cec596a6d85a12f9fcc313ee4fa4fc44726220b2dadf79", func := "loop.example/g01108/laws.FnExactFlagOrbits", spec := "fnExactFlagOrbits", apart := false, narrowed := true }
def FnExactFlagOrbitsUptoSaid : Prop := fnExactFlagOrbitsUptoRow.holds Try.pinned (OpenSpec.upto fnExactFlagOrbitsSpec)

/-- 'laws.FnExactIsChiral', WHERE WHAT IT READS IS OF BULK AT MOST 1048576: true; the input reads as it did. -/
def fnExactIsChiralUptoRow : OpenClaim := { program := "ytebcaajlkealoaa", sum := "66ed136d7a68a151b0cec596a6d85a12f9fcc313ee4fa4fc44726220b2dadf79", func := "loop.example/g01108/laws.FnExactIsChiral", spec := "fnExactIsChiral", apart := false, narrowed := true }
def FnExactIsChiralUptoSaid : Prop := fnExactIsChiralUptoRow.holds Try.pinned (OpenSpec.upto fnExactIsChiralSpec)

/-- 'laws.FnExactIsomorphismOf', WHERE WHAT IT READS IS OF BULK AT MOST 1048576: true; the input reads as it did. -/
def fnExactIsomorphismOfUptoRow : OpenClaim := { program := "ytebcaajlkealoaa", sum := "66ed136d7a68a151b0cec596a6d85a12f9fcc313ee4fa4fc44726220b2dadf79", func := "loop.example/g01108/laws.FnExactIsomorphismOf", spec := "fnExactIsomorphismOf", apart := false, narrowed := true }
def FnExactIsomorphismOfUptoSaid : Prop := fnExactIsomorphismOfUptoRow.holds Try.pinned (OpenSpec.upto fnExactIsomorphismOfSpec)

end Rows
end Go.Proofs.Ytebcaajlkealoaa
