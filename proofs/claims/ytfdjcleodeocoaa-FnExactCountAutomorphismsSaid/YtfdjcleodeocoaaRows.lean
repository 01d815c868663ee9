/-
  No cell of these rows narrows 'for every input' (looked for: loops, veiled, ifaces, maps, wideKeys, modest, calm, conditions, laid).
  DERIVED. THE GIVEN ROWS OF THIS SEAT. 7 by the template 'for every input the law returns true; each argument reads behind the call as it read before'; 0 by the template 'total and deterministic' (their statements: YtfdjcleodeocoaaTotals.lean).
  GIVEN WITH THE SEED: the statements are not yours to turn. If you find one false, say at which input.
  Laid BY PROGRAM, IN A SANDBOX (cutbox-rows.mjs): the forced cells as the released guide's own fill.sh prints them over the translation 7c3dbe290e79dde4… (all of the seat's roots in one cut). By AI agents, Wed Nov 11 2026. No macro, syntax, notation, axiom, sorry.
-/
import Derived.Test.YtfdjcleodeocoaaChecked
import GoSem.Claim
import GoSem.ClaimJoined
import GoSem.ClaimMapViews
import Derived.JoinedTies
import Derived.KernelRfl
namespace Go.Proofs.Ytfdjcleodeocoaa
/- THE CELL 'sum', in the pinned program and in every row, IS THE sha256 OF THE DUMP (.gsa) THAT YtfdjcleodeocoaaProg.lean LOADS. Nothing in Lean hashes anything: it is a label: what it is worth is what the hold of that sum in a sandbox is worth. -/
noncomputable def Try.pinned : Pinned := { name := "ytfdjcleodeocoaa", sum := "7c3dbe290e79dde4d8d41e375ffac8dadbecda8e0ea5ab0dabde8b8f22a4735f", checked := Try.checked }
namespace Rows
def none {H : Type} : Left H := { results := [], args := [] }

/-- 'laws.FnExactCountAutomorphisms': WHATEVER THE INPUT: true; the input reads as it did. -/
def fnExactCountAutomorphismsSpec : ChangeSpec := { name := "fnExactCountAutomorphisms", fn := fun _ => fun
  | [d] => { results := [.lit (.bool true)], args := [d] }
  | _ => none }
def fnExactCountAutomorphismsRow : OpenClaim := { program := "ytfdjcleodeocoaa", sum := "7c3dbe290e79dde4d8d41e375ffac8dadbecda8e0ea5ab0dabde8b8f22a4735f", func := "loop.example/g01108/laws.FnExactCountAutomorphisms", spec := "fnExactCountAutomorphisms", apart := false }
def FnExactCountAutomorphismsSaid : Prop := fnExactCountAutomorphismsRow.holds Try.pinned (OpenSpec.ofChange fnExactCountAutomorphismsSpec)

/-- ITS FALSE NEIGHBOUR: 'it returns false'. Refute it at one input. -/
def fnExactCountAutomorphismsWrong : ChangeSpec := { name := "fnExactCountAutomorphisms", fn := fun _ => fun
  | [d] => { results := [.lit (.bool false)], args := [d] }
  | _ => none }
def FnExactCountAutomorphismsWrongFalsely : Prop := fnExactCountAutomorphismsRow.holds Try.pinned (OpenSpec.ofChange fnExactCountAutomorphismsWrong)

/-- 'laws.FnExactIsRegular': WHATEVER THE INPUT: true; the input reads as it did. -/
def fnExactIsRegularSpec : ChangeSpec := { name := "fnExactIsRegular", fn := fun _ => fun
  | [d] => { results := [.lit (.bool true)], args := [d] }
  | _ => none }
def fnExactIsRegularRow : OpenClaim := { program := "ytfdjcleodeocoaa", sum := "7c3dbe290e79dde4d8d41e375ffac8dadbecda8e0ea5ab0dabde8b8f22a4735f", func := "loop.example/g01108/laws.FnExactIsRegular", spec := "fnExactIsRegular", apart := false }
def FnExactIsRegularSaid : Prop := fnExactIsRegularRow.holds Try.pinned (OpenSpec.ofChange fnExactIsRegularSpec)

/-- ITS FALSE NEIGHBOUR: 'it returns false'. Refute it at one input. -/
def fnExactIsRegularWrong : ChangeSpec := { name := "fnExactIsRegular", fn := fun _ => fun
  | [d] => { results := [.lit (.bool false)], args := [d] }
  | _ => none }
def FnExactIsRegularWrongFalsely : Prop := fnExactIsRegularRow.holds Try.pinned (OpenSpec.ofChange fnExactIsRegularWrong)

/-- 'laws.FnExactCountCoverings': WHATEVER THE INPUT: true; the input reads as it did. -/
def fnExactCountCoveringsSpec : ChangeSpec := { name := "fnExactCountCoverings", fn := fun _ => fun
  | [d1, d2] => { results := [.lit (.bool true)], args := [d1, d2] }
  | _ => none }
def fnExactCountCoveringsRow : OpenClaim := { program := "ytfdjcleodeocoaa", sum := "7c3dbe290e79dde4d8d41e375ffac8dadbecda8e0ea5ab0dabde8b8f22a4735f", func := "loop.example/g01108/laws.FnExactCountCoverings", spec := "fnExactCountCoverings", apart := false }
def FnExactCountCoveringsSaid : Prop := fnExactCountCoveringsRow.holds Try.pinned (OpenSpec.ofChange fnExactCountCoveringsSpec)

/-- ITS FALSE NEIGHBOUR: 'it returns false'. Refute it at one input. -/
def fnExactCountCoveringsWrong : ChangeSpec := { name := "fnExactCountCoverings", fn := fun _ => fun
  | [d1, d2] => { results := [.lit (.bool false)], args := [d1, d2] }
  | _ => none }
def FnExactCountCoveringsWrongFalsely : Prop := fnExactCountCoveringsRow.holds Try.pinned (OpenSpec.ofChange fnExactCountCoveringsWrong)

/-- 'laws.FnExactAreCovered': WHATEVER THE INPUT: true; the input reads as it did. -/
def fnExactAreCoveredSpec : ChangeSpec := { name := "fnExactAreCovered", fn := fun _ => fun
  | [d1, d2] => { results := [.lit (.bool true)], args := [d1, d2] }
  | _ => none }
def fnExactAreCoveredRow : OpenClaim := { program := "ytfdjcleodeocoaa", sum := "7c3dbe290e79dde4d8d41e375ffac8dadbecda8e0ea5ab0dabde8b8f22a4735f", func := "loop.example/g01108/laws.FnExactAreCovered", spec := "fnExactAreCovered", apart := false }
def FnExactAreCoveredSaid : Prop := fnExactAreCoveredRow.holds Try.pinned (OpenSpec.ofChange fnExactAreCoveredSpec)

/-- ITS FALSE NEIGHBOUR: 'it returns false'. Refute it at one input. -/
def fnExactAreCoveredWrong : ChangeSpec := { name := "fnExactAreCovered", fn := fun _ => fun
  | [d1, d2] => { results := [.lit (.bool false)], args := [d1, d2] }
  | _ => none }
def FnExactAreCoveredWrongFalsely : Prop := fnExactAreCoveredRow.holds Try.pinned (OpenSpec.ofChange fnExactAreCoveredWrong)

/-- 'laws.FnExactAreIsomorphic': WHATEVER THE INPUT: true; the input reads as it did. -/
def fnExactAreIsomorphicSpec : ChangeSpec := { name := "fnExactAreIsomorphic", fn := fun _ => fun
  | [d1, d2] => { results := [.lit (.bool true)], args := [d1, d2] }
  | _ => none }
def fnExactAreIsomorphicRow : OpenClaim := { program := "ytfdjcleodeocoaa", sum := "7c3dbe290e79dde4d8d41e375ffac8dadbecda8e0ea5ab0dabde8b8f22a4735f", func := "loop.example/g01108/laws.FnExactAreIsomorphic", spec := "fnExactAreIsomorphic", apart := false }
def FnExactAreIsomorphicSaid : Prop := fnExactAreIsomorphicRow.holds Try.pinned (OpenSpec.ofChange fnExactAreIsomorphicSpec)

/-- ITS FALSE NEIGHBOUR: 'it returns false'. Refute it at one input. -/
def fnExactAreIsomorphicWrong : ChangeSpec := { name := "fnExactAreIsomorphic", fn := fun _ => fun
  | [d1, d2] => { results := [.lit (.bool false)], args := [d1, d2] }
  | _ => none }
def FnExactAreIsomorphicWrongFalsely : Prop := fnExactAreIsomorphicRow.holds Try.pinned (OpenSpec.ofChange fnExactAreIsomorphicWrong)

/-- 'laws.FnExactDoesNothing': WHATEVER THE INPUT: true; the input reads as it did. -/
def fnExactDoesNothingSpec : ChangeSpec := { name := "fnExactDoesNothing", fn := fun _ => fun
  | [d1, d2] => { results := [.lit (.bool true)], args := [d1, d2] }
  | _ => none }
def fnExactDoesNothingRow : OpenClaim := { program := "ytfdjcleodeocoaa", sum := "7c3dbe290e79dde4d8d41e375ffac8dadbecda8e0ea5ab0dabde8b8f22a4735f", func := "loop.example/g01108/laws.FnExactDoesNothing", spec := "fnExactDoesNothing", unfollowed := true, recurses := true, apart := false }
def FnExactDoesNothingSaid : Prop := fnExactDoesNothingRow.holds Try.pinned (OpenSpec.ofChange fnExactDoesNothingSpec)

/-- ITS FALSE NEIGHBOUR: 'it returns false'. Refute it at one input. -/
def fnExactDoesNothingWrong : ChangeSpec := { name := "fnExactDoesNothing", fn := fun _ => fun
  | [d1, d2] => { results := [.lit (.bool false)], args := [d1, d2] }
  | _ => none }
def FnExactDoesNothingWrongFalsely : Prop := fnExactDoesNothingRow.holds Try.pinned (OpenSpec.ofChange fnExactDoesNothingWrong)

/-- 'laws.FnExactAutomorphismTo': WHATEVER THE INPUT: true; the input reads as it did. -/
def fnExactAutomorphismToSpec : ChangeSpec := { name := "fnExactAutomorphismTo", fn := fun _ => fun
  | [d1, d2] => { results := [.lit (.bool true)], args := [d1, d2] }
  | _ => none }
def fnExactAutomorphismToRow : OpenClaim := { program := "ytfdjcleodeocoaa", sum := "7c3dbe290e79dde4d8d41e375ffac8dadbecda8e0ea5ab0dabde8b8f22a4735f", func := "loop.example/g01108/laws.FnExactAutomorphismTo", spec := "fnExactAutomorphismTo", apart := false }
def FnExactAutomorphismToSaid : Prop := fnExactAutomorphismToRow.holds Try.pinned (OpenSpec.ofChange fnExactAutomorphismToSpec)

/-- ITS FALSE NEIGHBOUR: 'it returns false'. Refute it at one input. -/
def fnExactAutomorphismToWrong : ChangeSpec := { name := "fnExactAutomorphismTo", fn := fun _ => fun
  | [d1, d2] => { results := [.lit (.bool false)], args := [d1, d2] }
  | _ => none }
def FnExactAutomorphismToWrongFalsely : Prop := fnExactAutomorphismToRow.holds Try.pinned (OpenSpec.ofChange fnExactAutomorphismToWrong)

/- THE SECOND FORM. 'bulk': how many values and letters a reading holds, each counted each time it is reached (what is shared counts as often as it is met; a slice's spare places count too). A statement '..UptoSaid' is the law's where the arguments, and the package variables that the reading takes, are together of bulk at most 1048576: NARROWER than '..Said'. Prove '..Said' where nothing that the law and all that it calls make is longer than what came in: it says more and counts as full. Else prove '..UptoSaid'. A law counts once. -/
mutual
def uptoBulk {H : Type} : DataW H → Nat
  | .lit (.string bytes) => bytes.length + 1
  | .lit _ => 1
  | .nil => 1
  | .ptr d => uptoBulk d + 1
  | .slice elems spare => uptoBulkAll elems + uptoBulkAll spare + 1
  | .agg parts => uptoBulkAll parts + 1
  | .iface _ d => uptoBulk d + 1
  | .map entries => uptoBulkEntries entries + 1
  | .held _ => 1
def uptoBulkAll {H : Type} : List (DataW H) → Nat
  | [] => 0
  | d :: r => uptoBulk d + uptoBulkAll r
def uptoBulkEntries {H : Type} : List (Lit × DataW H) → Nat
  | [] => 0
  | x :: r => uptoBulkEntry x + uptoBulkEntries r
def uptoBulkEntry {H : Type} : Lit × DataW H → Nat
  | (.string bytes, d) => bytes.length + uptoBulk d + 1
  | (_, d) => uptoBulk d + 1
 end
def uptoSmall : (H : Type) → List (DataW H) → Bool := fun _ ds => decide (uptoBulkAll ds ≤ 1048576)
def OpenSpec.upto (s : _root_.Go.ChangeSpec) : _root_.Go.OpenSpec := { _root_.Go.OpenSpec.ofChange s with cond := some uptoSmall }

/-- 'laws.FnExactCountAutomorphisms', WHERE WHAT IT READS IS OF BULK AT MOST 1048576: true; the input reads as it did. -/
def fnExactCountAutomorphismsUptoRow : OpenClaim := { program := "ytfdjcleodeocoaa", sum := "7c3dbe290e79dde4d8d41e375ffac8dadbecda8e0ea5ab0dabde8b8f22a4735f", func := "loop.example/g01108/laws.FnExactCountAutomorphisms", spec := "fnExactCountAutomorphisms", apart := false, narrowed := true }
def FnExactCountAutomorphismsUptoSaid : Prop := fnExactCountAutomorphismsUptoRow.holds Try.pinned (OpenSpec.upto fnExactCountAutomorphismsSpec)

/-- 'laws.FnExactIsRegular', WHERE WHAT IT READS IS OF BULK AT MOST 1048576: true; the input reads as it did. -/
def fnExactIsRegularUptoRow : OpenClaim := { program := "ytfdjcleodeocoaa", sum := "7c3dbe290e79dde4d8d41e375ffac8dadbecda8e0ea5ab0dabde8b8f22a4735f", func := "loop.example/g01108/laws.FnExactIsRegular", spec := "fnExactIsRegular", apart := false, narrowed := true }
def FnExactIsRegularUptoSaid : Prop := fnExactIsRegularUptoRow.holds Try.pinned (OpenSpec.upto fnExactIsRegularSpec)

/-- 'laws.FnExactCountCoverings', WHERE WHAT IT READS IS OF BULK AT MOST 1048576: true; the input reads as it did. -/
def fnExactCountCoveringsUptoRow : OpenClaim := { program := "ytfdjcleodeocoaa", sum := "7c3dbe290e79dde4d8d41e375ffac8dadbecda8e0ea5ab0dabde8b8f22a4735f", func := "loop.example/g01108/laws.FnExactCountCoverings", spec := "fnExactCountCoverings", apart := false, narrowed := true }
def FnExactCountCoveringsUptoSaid : Prop := fnExactCountCoveringsUptoRow.holds Try.pinned (OpenSpec.upto fnExactCountCoveringsSpec)

/-- 'laws.FnExactAreCovered', WHERE WHAT IT READS IS OF BULK AT MOST 1048576: true; the input reads as it did. -/
def fnExactAreCoveredUptoRow : OpenClaim := { program := "ytfdjcleodeocoaa", sum := "7c3dbe290e79dde4d8d41e375ffac8dadbecda8e0ea5ab0dabde8b8f22a4735f", func := "loop.example/g01108/laws.FnExactAreCovered", spec := "fnExactAreCovered", apart := false, narrowed := true }
def FnExactAreCoveredUptoSaid : Prop := fnExactAreCoveredUptoRow.holds Try.pinned (OpenSpec.upto fnExactAreCoveredSpec)

/-- 'laws.FnExactAreIsomorphic', WHERE WHAT IT READS IS OF BULK AT MOST 1048576: true; the input reads as it did. -/
def fnExactAreIsomorphicUptoRow : OpenClaim := { program := "ytfdjcleodeocoaa", sum := "7c3dbe290e79dde4d8d41e375ffac8dadbecda8e0ea5ab0dabde8b8f22a4735f", func := "loop.example/g01108/laws.FnExactAreIsomorphic", spec := "fnExactAreIsomorphic", apart := false, narrowed := true }
def FnExactAreIsomorphicUptoSaid : Prop := fnExactAreIsomorphicUptoRow.holds Try.pinned (OpenSpec.upto fnExactAreIsomorphicSpec)

/-- 'laws.FnExactDoesNothing', WHERE WHAT IT READS IS OF BULK AT MOST 1048576: true; the input reads as it did. -/
def fnExactDoesNothingUptoRow : OpenClaim := { program := "ytfdjcleodeocoaa", sum := "7c3dbe290e79dde4d8d41e375ffac8dadbecda8e0ea5ab0dabde8b8f22a4735f", func := "loop.example/g01108/laws.FnExactDoesNothing", spec := "fnExactDoesNothing", unfollowed := true, recurses := true, apart := false, narrowed := true }
def FnExactDoesNothingUptoSaid : Prop := fnExactDoesNothingUptoRow.holds Try.pinned (OpenSpec.upto fnExactDoesNothingSpec)

/-- 'laws.FnExactAutomorphismTo', WHERE WHAT IT READS IS OF BULK AT MOST 1048576: true; the input reads as it did. -/
def fnExactAutomorphismToUptoRow : OpenClaim := { program := "ytfdjcleodeocoaa", sum := "7c3dbe290e79dde4d8d41e375ffac8dadbecda8e0ea5ab0dabde8b8f22a4735f", func := "loop.example/g01108/laws.FnExactAutomorphismTo", spec := "fnExactAutomorphismTo", apart := false, narrowed := true }
def FnExactAutomorphismToUptoSaid : Prop := fnExactAutomorphismToUptoRow.holds Try.pinned (OpenSpec.upto fnExactAutomorphismToSpec)

end Rows
end Go.Proofs.Ytfdjcleodeocoaa
