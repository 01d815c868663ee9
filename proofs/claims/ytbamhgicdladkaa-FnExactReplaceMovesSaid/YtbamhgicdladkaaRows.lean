/-
  No cell of these rows narrows 'for every input' (looked for: loops, veiled, ifaces, maps, wideKeys, modest, calm, conditions, laid).
  DERIVED. THE GIVEN ROWS OF THIS SEAT. 12 by the template 'for every input the law returns true; each argument reads behind the call as it read before'; 0 by the template 'total and deterministic' (their statements: YtbamhgicdladkaaTotals.lean).
  GIVEN WITH THE SEED: the statements are not yours to turn. If you find one false, say at which input.
  Laid BY PROGRAM, IN A SANDBOX (cutbox-rows.mjs): the forced cells as the released guide's own fill.sh prints them over the translation a7792676fb41c4ec… (all of the seat's roots in one cut). By AI agents, Wed Nov 11 2026. No macro, syntax, notation, axiom, sorry.
-/
import Derived.Test.YtbamhgicdladkaaChecked
import GoSem.Claim
import GoSem.ClaimJoined
import GoSem.ClaimMapViews
import Derived.JoinedTies
import Derived.KernelRfl
namespace Go.Proofs.Ytbamhgicdladkaa
/- THE CELL 'sum', in the pinned program and in every row, IS THE sha256 OF THE DUMP (.gsa) THAT YtbamhgicdladkaaProg.lean LOADS. Nothing in Lean hashes anything: it is a label: what it is worth is what the hold of that sum in a sandbox is worth. -/
noncomputable def Try.pinned : Pinned := { name := "ytbamhgicdladkaa", sum := "a7792676fb41c4ec56afcc51913fdd3992645e4f0f35e269a554d87e1f95e1c6", checked := Try.checked }
namespace Rows
def none {H : Type} : Left H := { results := [], args := [] }

/-- 'laws.FnExactDualOf': WHATEVER THE INPUT: true; the input reads as it did. -/
def fnExactDualOfSpec : ChangeSpec := { name := "fnExactDualOf", fn := fun _ => fun
  | [d] => { results := [.lit (.bool true)], args := [d] }
  | _ => none }
def fnExactDualOfRow : OpenClaim := { program := "ytbamhgicdladkaa", sum := "a7792676fb41c4ec56afcc51913fdd3992645e4f0f35e269a554d87e1f95e1c6", func := "loop.example/g01108/laws.FnExactDualOf", spec := "fnExactDualOf", apart := false }
def FnExactDualOfSaid : Prop := fnExactDualOfRow.holds Try.pinned (OpenSpec.ofChange fnExactDualOfSpec)

/-- ITS FALSE NEIGHBOUR: 'it returns false'. Refute it at one input. -/
def fnExactDualOfWrong : ChangeSpec := { name := "fnExactDualOf", fn := fun _ => fun
  | [d] => { results := [.lit (.bool false)], args := [d] }
  | _ => none }
def FnExactDualOfWrongFalsely : Prop := fnExactDualOfRow.holds Try.pinned (OpenSpec.ofChange fnExactDualOfWrong)

/-- 'laws.FnExactHalfOf': WHATEVER THE INPUT: true; the input reads as it did. -/
def fnExactHalfOfSpec : ChangeSpec := { name := "fnExactHalfOf", fn := fun _ => fun
  | [d] => { results := [.lit (.bool true)], args := [d] }
  | _ => none }
def fnExactHalfOfRow : OpenClaim := { program := "ytbamhgicdladkaa", sum := "a7792676fb41c4ec56afcc51913fdd3992645e4f0f35e269a554d87e1f95e1c6", func := "loop.example/g01108/laws.FnExactHalfOf", spec := "fnExactHalfOf", apart := false }
def FnExactHalfOfSaid : Prop := fnExactHalfOfRow.holds Try.pinned (OpenSpec.ofChange fnExactHalfOfSpec)

/-- ITS FALSE NEIGHBOUR: 'it returns false'. Refute it at one input. -/
def fnExactHalfOfWrong : ChangeSpec := { name := "fnExactHalfOf", fn := fun _ => fun
  | [d] => { results := [.lit (.bool false)], args := [d] }
  | _ => none }
def FnExactHalfOfWrongFalsely : Prop := fnExactHalfOfRow.holds Try.pinned (OpenSpec.ofChange fnExactHalfOfWrong)

/-- 'laws.FnExactOppositeOf': WHATEVER THE INPUT: true; the input reads as it did. -/
def fnExactOppositeOfSpec : ChangeSpec := { name := "fnExactOppositeOf", fn := fun _ => fun
  | [d] => { results := [.lit (.bool true)], args := [d] }
  | _ => none }
def fnExactOppositeOfRow : OpenClaim := { program := "ytbamhgicdladkaa", sum := "a7792676fb41c4ec56afcc51913fdd3992645e4f0f35e269a554d87e1f95e1c6", func := "loop.example/g01108/laws.FnExactOppositeOf", spec := "fnExactOppositeOf", apart := false }
def FnExactOppositeOfSaid : Prop := fnExactOppositeOfRow.holds Try.pinned (OpenSpec.ofChange fnExactOppositeOfSpec)

/-- ITS FALSE NEIGHBOUR: 'it returns false'. Refute it at one input. -/
def fnExactOppositeOfWrong : ChangeSpec := { name := "fnExactOppositeOf", fn := fun _ => fun
  | [d] => { results := [.lit (.bool false)], args := [d] }
  | _ => none }
def FnExactOppositeOfWrongFalsely : Prop := fnExactOppositeOfRow.holds Try.pinned (OpenSpec.ofChange fnExactOppositeOfWrong)

/-- 'laws.FnExactHoleOf': WHATEVER THE INPUT: true; the input reads as it did. -/
def fnExactHoleOfSpec : ChangeSpec := { name := "fnExactHoleOf", fn := fun _ => fun
  | [d1, d2] => { results := [.lit (.bool true)], args := [d1, d2] }
  | _ => none }
def fnExactHoleOfRow : OpenClaim := { program := "ytbamhgicdladkaa", sum := "a7792676fb41c4ec56afcc51913fdd3992645e4f0f35e269a554d87e1f95e1c6", func := "loop.example/g01108/laws.FnExactHoleOf", spec := "fnExactHoleOf", apart := false }
def FnExactHoleOfSaid : Prop := fnExactHoleOfRow.holds Try.pinned (OpenSpec.ofChange fnExactHoleOfSpec)

/-- ITS FALSE NEIGHBOUR: 'it returns false'. Refute it at one input. -/
def fnExactHoleOfWrong : ChangeSpec := { name := "fnExactHoleOf", fn := fun _ => fun
  | [d1, d2] => { results := [.lit (.bool false)], args := [d1, d2] }
  | _ => none }
def FnExactHoleOfWrongFalsely : Prop := fnExactHoleOfRow.holds Try.pinned (OpenSpec.ofChange fnExactHoleOfWrong)

/-- 'laws.FnExactPetrieOf': WHATEVER THE INPUT: true; the input reads as it did. -/
def fnExactPetrieOfSpec : ChangeSpec := { name := "fnExactPetrieOf", fn := fun _ => fun
  | [d] => { results := [.lit (.bool true)], args := [d] }
  | _ => none }
def fnExactPetrieOfRow : OpenClaim := { program := "ytbamhgicdladkaa", sum := "a7792676fb41c4ec56afcc51913fdd3992645e4f0f35e269a554d87e1f95e1c6", func := "loop.example/g01108/laws.FnExactPetrieOf", spec := "fnExactPetrieOf", apart := false }
def FnExactPetrieOfSaid : Prop := fnExactPetrieOfRow.holds Try.pinned (OpenSpec.ofChange fnExactPetrieOfSpec)

/-- ITS FALSE NEIGHBOUR: 'it returns false'. Refute it at one input. -/
def fnExactPetrieOfWrong : ChangeSpec := { name := "fnExactPetrieOf", fn := fun _ => fun
  | [d] => { results := [.lit (.bool false)], args := [d] }
  | _ => none }
def FnExactPetrieOfWrongFalsely : Prop := fnExactPetrieOfRow.holds Try.pinned (OpenSpec.ofChange fnExactPetrieOfWrong)

/-- 'laws.FnExactReplaceMoves': WHATEVER THE INPUT: true; the input reads as it did. -/
def fnExactReplaceMovesSpec : ChangeSpec := { name := "fnExactReplaceMoves", fn := fun _ => fun
  | [d1, d2] => { results := [.lit (.bool true)], args := [d1, d2] }
  | _ => none }
def fnExactReplaceMovesRow : OpenClaim := { program := "ytbamhgicdladkaa", sum := "a7792676fb41c4ec56afcc51913fdd3992645e4f0f35e269a554d87e1f95e1c6", func := "loop.example/g01108/laws.FnExactReplaceMoves", spec := "fnExactReplaceMoves", unfollowed := true, recurses := true, apart := false }
def FnExactReplaceMovesSaid : Prop := fnExactReplaceMovesRow.holds Try.pinned (OpenSpec.ofChange fnExactReplaceMovesSpec)

/-- ITS FALSE NEIGHBOUR: 'it returns false'. Refute it at one input. -/
def fnExactReplaceMovesWrong : ChangeSpec := { name := "fnExactReplaceMoves", fn := fun _ => fun
  | [d1, d2] => { results := [.lit (.bool false)], args := [d1, d2] }
  | _ => none }
def FnExactReplaceMovesWrongFalsely : Prop := fnExactReplaceMovesRow.holds Try.pinned (OpenSpec.ofChange fnExactReplaceMovesWrong)

/-- 'laws.FnExactExtendInside': WHATEVER THE INPUT: true; the input reads as it did. -/
def fnExactExtendInsideSpec : ChangeSpec := { name := "fnExactExtendInside", fn := fun _ => fun
  | [d] => { results := [.lit (.bool true)], args := [d] }
  | _ => none }
def fnExactExtendInsideRow : OpenClaim := { program := "ytbamhgicdladkaa", sum := "a7792676fb41c4ec56afcc51913fdd3992645e4f0f35e269a554d87e1f95e1c6", func := "loop.example/g01108/laws.FnExactExtendInside", spec := "fnExactExtendInside", apart := false }
def FnExactExtendInsideSaid : Prop := fnExactExtendInsideRow.holds Try.pinned (OpenSpec.ofChange fnExactExtendInsideSpec)

/-- ITS FALSE NEIGHBOUR: 'it returns false'. Refute it at one input. -/
def fnExactExtendInsideWrong : ChangeSpec := { name := "fnExactExtendInside", fn := fun _ => fun
  | [d] => { results := [.lit (.bool false)], args := [d] }
  | _ => none }
def FnExactExtendInsideWrongFalsely : Prop := fnExactExtendInsideRow.holds Try.pinned (OpenSpec.ofChange fnExactExtendInsideWrong)

/-- 'laws.FnExactExtendManiplex': WHATEVER THE INPUT: true; the input reads as it did. -/
def fnExactExtendManiplexSpec : ChangeSpec := { name := "fnExactExtendManiplex", fn := fun _ => fun
  | [d] => { results := [.lit (.bool true)], args := [d] }
  | _ => none }
def fnExactExtendManiplexRow : OpenClaim := { program := "ytbamhgicdladkaa", sum := "a7792676fb41c4ec56afcc51913fdd3992645e4f0f35e269a554d87e1f95e1c6", func := "loop.example/g01108/laws.FnExactExtendManiplex", spec := "fnExactExtendManiplex", apart := false }
def FnExactExtendManiplexSaid : Prop := fnExactExtendManiplexRow.holds Try.pinned (OpenSpec.ofChange fnExactExtendManiplexSpec)

/-- ITS FALSE NEIGHBOUR: 'it returns false'. Refute it at one input. -/
def fnExactExtendManiplexWrong : ChangeSpec := { name := "fnExactExtendManiplex", fn := fun _ => fun
  | [d] => { results := [.lit (.bool false)], args := [d] }
  | _ => none }
def FnExactExtendManiplexWrongFalsely : Prop := fnExactExtendManiplexRow.holds Try.pinned (OpenSpec.ofChange fnExactExtendManiplexWrong)

/-- 'laws.FnExactDoubleCover': WHATEVER THE INPUT: true; the input reads as it did. -/
def fnExactDoubleCoverSpec : ChangeSpec := { name := "fnExactDoubleCover", fn := fun _ => fun
  | [d] => { results := [.lit (.bool true)], args := [d] }
  | _ => none }
def fnExactDoubleCoverRow : OpenClaim := { program := "ytbamhgicdladkaa", sum := "a7792676fb41c4ec56afcc51913fdd3992645e4f0f35e269a554d87e1f95e1c6", func := "loop.example/g01108/laws.FnExactDoubleCover", spec := "fnExactDoubleCover", unfollowed := true, recurses := true, apart := false }
def FnExactDoubleCoverSaid : Prop := fnExactDoubleCoverRow.holds Try.pinned (OpenSpec.ofChange fnExactDoubleCoverSpec)

/-- ITS FALSE NEIGHBOUR: 'it returns false'. Refute it at one input. -/
def fnExactDoubleCoverWrong : ChangeSpec := { name := "fnExactDoubleCover", fn := fun _ => fun
  | [d] => { results := [.lit (.bool false)], args := [d] }
  | _ => none }
def FnExactDoubleCoverWrongFalsely : Prop := fnExactDoubleCoverRow.holds Try.pinned (OpenSpec.ofChange fnExactDoubleCoverWrong)

/-- 'laws.FnExactQuotientBy': WHATEVER THE INPUT: true; the input reads as it did. -/
def fnExactQuotientBySpec : ChangeSpec := { name := "fnExactQuotientBy", fn := fun _ => fun
  | [d1, d2] => { results := [.lit (.bool true)], args := [d1, d2] }
  | _ => none }
def fnExactQuotientByRow : OpenClaim := { program := "ytbamhgicdladkaa", sum := "a7792676fb41c4ec56afcc51913fdd3992645e4f0f35e269a554d87e1f95e1c6", func := "loop.example/g01108/laws.FnExactQuotientBy", spec := "fnExactQuotientBy", unfollowed := true, recurses := true, apart := false }
def FnExactQuotientBySaid : Prop := fnExactQuotientByRow.holds Try.pinned (OpenSpec.ofChange fnExactQuotientBySpec)

/-- ITS FALSE NEIGHBOUR: 'it returns false'. Refute it at one input. -/
def fnExactQuotientByWrong : ChangeSpec := { name := "fnExactQuotientBy", fn := fun _ => fun
  | [d1, d2] => { results := [.lit (.bool false)], args := [d1, d2] }
  | _ => none }
def FnExactQuotientByWrongFalsely : Prop := fnExactQuotientByRow.holds Try.pinned (OpenSpec.ofChange fnExactQuotientByWrong)

/-- 'laws.FnExactIsSelfDual': WHATEVER THE INPUT: true; the input reads as it did. -/
def fnExactIsSelfDualSpec : ChangeSpec := { name := "fnExactIsSelfDual", fn := fun _ => fun
  | [d] => { results := [.lit (.bool true)], args := [d] }
  | _ => none }
def fnExactIsSelfDualRow : OpenClaim := { program := "ytbamhgicdladkaa", sum := "a7792676fb41c4ec56afcc51913fdd3992645e4f0f35e269a554d87e1f95e1c6", func := "loop.example/g01108/laws.FnExactIsSelfDual", spec := "fnExactIsSelfDual", unfollowed := true, recurses := true, apart := false }
def FnExactIsSelfDualSaid : Prop := fnExactIsSelfDualRow.holds Try.pinned (OpenSpec.ofChange fnExactIsSelfDualSpec)

/-- ITS FALSE NEIGHBOUR: 'it returns false'. Refute it at one input. -/
def fnExactIsSelfDualWrong : ChangeSpec := { name := "fnExactIsSelfDual", fn := fun _ => fun
  | [d] => { results := [.lit (.bool false)], args := [d] }
  | _ => none }
def FnExactIsSelfDualWrongFalsely : Prop := fnExactIsSelfDualRow.holds Try.pinned (OpenSpec.ofChange fnExactIsSelfDualWrong)

/-- 'laws.FnExactDeckMoves': WHATEVER THE INPUT: true; the input reads as it did. -/
def fnExactDeckMovesSpec : ChangeSpec := { name := "fnExactDeckMoves", fn := fun _ => fun
  | [d1, d2, d3] => { results := [.lit (.bool true)], args := [d1, d2, d3] }
  | _ => none }
def fnExactDeckMovesRow : OpenClaim := { program := "ytbamhgicdladkaa", sum := "a7792676fb41c4ec56afcc51913fdd3992645e4f0f35e269a554d87e1f95e1c6", func := "loop.example/g01108/laws.FnExactDeckMoves", spec := "fnExactDeckMoves", unfollowed := true, recurses := true, apart := false }
def FnExactDeckMovesSaid : Prop := fnExactDeckMovesRow.holds Try.pinned (OpenSpec.ofChange fnExactDeckMovesSpec)

/-- ITS FALSE NEIGHBOUR: 'it returns false'. Refute it at one input. -/
def fnExactDeckMovesWrong : ChangeSpec := { name := "fnExactDeckMoves", fn := fun _ => fun
  | [d1, d2, d3] => { results := [.lit (.bool false)], args := [d1, d2, d3] }
  | _ => none }
def FnExactDeckMovesWrongFalsely : Prop := fnExactDeckMovesRow.holds Try.pinned (OpenSpec.ofChange fnExactDeckMovesWrong)

/- THE SECOND FORM. 'bulk': how many values and letters a reading holds, each counted each time it is reached (what is shared counts as often as it is met; a slice's spare places count too). A statement '..UptoSaid' is the law's where the arguments, and the package variables that the reading takes, are together of bulk at most 1048576: NARROWER than '..Said'. Prove '..Said' where nothing that the law and all that it calls make is longer than what came in: it says more and counts as full. Else prove '..UptoSaid'. A law counts once. -/
mutual
def uptoBulk {H : Type} : DataW H → Nat
  | .lit (.string bytes) => bytes.length + 1
  | .lit _ => 1
  | .nil => 1
  | .ptr d => uptoBulk d + 1
  | .slice elems spare => uptoBulkAll elems + uptoBulkAll spare + 1
  | .agg parts => uptoBulkAll parts + 1
  | .iface _ d => uptoBulk d + 1
  | .map entries => uptoBulkEntries entries + 1
  | .held _ => 1
def uptoBulkAll {H : Type} : List (DataW H) → Nat
  | [] => 0
  | d :: r => uptoBulk d + uptoBulkAll r
def uptoBulkEntries {H : Type} : List (Lit × DataW H) → Nat
  | [] => 0
  | x :: r => uptoBulkEntry x + uptoBulkEntries r
def uptoBulkEntry {H : Type} : Lit × DataW H → Nat
  | (.string bytes, d) => bytes.length + uptoBulk d + 1
  | (_, d) => uptoBulk d + 1
 end
def uptoSmall : (H : Type) → List (DataW H) → Bool := fun _ ds => decide (uptoBulkAll ds ≤ 1048576)
def OpenSpec.upto (s : _root_.Go.ChangeSpec) : _root_.Go.OpenSpec := { _root_.Go.OpenSpec.ofChange s with cond := some uptoSmall }

/-- 'laws.FnExactDualOf', WHERE WHAT IT READS IS OF BULK AT MOST 1048576: true; the input reads as it did. -/
def fnExactDualOfUptoRow : OpenClaim := { program := "ytbamhgicdladkaa", sum := "a7792676fb41c4ec56afcc51913fdd3992645e4f0f35e269a554d87e1f95e1c6", func := "loop.example/g01108/laws.FnExactDualOf", spec := "fnExactDualOf", apart := false, narrowed := true }
def FnExactDualOfUptoSaid : Prop := fnExactDualOfUptoRow.holds Try.pinned (OpenSpec.upto fnExactDualOfSpec)

/-- 'laws.FnExactHalfOf', WHERE WHAT IT READS IS OF BULK AT MOST 1048576: true; the input reads as it did. -/
def fnExactHalfOfUptoRow : OpenClaim := { program := "ytbamhgicdladkaa", sum := "a7792676fb41c4ec56afcc51913fdd3992645e4f0f35e269a554d87e1f95e1c6", func := "loop.example/g01108/laws.FnExactHalfOf", spec := "fnExactHalfOf", apart := false, narrowed := true }
def FnExactHalfOfUptoSaid : Prop := fnExactHalfOfUptoRow.holds Try.pinned (OpenSpec.upto fnExactHalfOfSpec)

/-- 'laws.FnExactOppositeOf', WHERE WHAT IT READS IS OF BULK AT MOST 1048576: true; the input reads as it did. -/
def fnExactOppositeOfUptoRow : OpenClaim := { program := "ytbamhgicdladkaa", sum := "a7792676fb41c4ec56afcc51913fdd3992645e4f0f35e269a554d87e1f95e1c6", func := "loop.example/g01108/laws.FnExactOppositeOf", spec := "fnExactOppositeOf", apart := false, narrowed := true }
def FnExactOppositeOfUptoSaid : Prop := fnExactOppositeOfUptoRow.holds Try.pinned (OpenSpec.upto fnExactOppositeOfSpec)

/-- 'laws.FnExactHoleOf', WHERE WHAT IT READS IS OF BULK AT MOST 1048576: true; the input reads as it did. -/
def fnExactHoleOfUptoRow : OpenClaim := { program := "ytbamhgicdladkaa", sum := "a7792676fb41c4ec56afcc51913fdd3992645e4f0f35e269a554d87e1f95e1c6", func := "loop.example/g01108/laws.FnExactHoleOf", spec := "fnExactHoleOf", apart := false, narrowed := true }
def FnExactHoleOfUptoSaid : Prop := fnExactHoleOfUptoRow.holds Try.pinned (OpenSpec.upto fnExactHoleOfSpec)

/-- 'laws.FnExactPetrieOf', WHERE WHAT IT READS IS OF BULK AT MOST 1048576: true; the input reads as it did. -/
def fnExactPetrieOfUptoRow : OpenClaim := { program := "ytbamhgicdladkaa", sum := "a7792676fb41c4ec56afcc51913fdd3992645e4f0f35e269a554d87e1f95e1c6", func := "loop.example/g01108/laws.FnExactPetrieOf", spec := "fnExactPetrieOf", apart := false, narrowed := true }
def FnExactPetrieOfUptoSaid : Prop := fnExactPetrieOfUptoRow.holds Try.pinned (OpenSpec.upto fnExactPetrieOfSpec)

/-- 'laws.FnExactReplaceMoves', WHERE WHAT IT READS IS OF BULK AT MOST 1048576: true; the input reads as it did. -/
def fnExactReplaceMovesUptoRow : OpenClaim := { program := "ytbamhgicdladkaa", sum := "a7792676fb41c4ec56afcc51913fdd3992645e4f0f35e269a554d87e1f95e1c6", func := "loop.example/g01108/laws.FnExactReplaceMoves", spec := "fnExactReplaceMoves", unfollowed := true, recurses := true, apart := false, narrowed := true }
def FnExactReplaceMovesUptoSaid : Prop := fnExactReplaceMovesUptoRow.holds Try.pinned (OpenSpec.upto fnExactReplaceMovesSpec)

/-- 'laws.FnExactExtendInside', WHERE WHAT IT READS IS OF BULK AT MOST 1048576: true; the input reads as it did. -/
def fnExactExtendInsideUptoRow : OpenClaim := { program := "ytbamhgicdladkaa", sum := "a7792676fb41c4ec56afcc51913fdd3992645e4f0f35e269a554d87e1f95e1c6", func := "loop.example/g01108/laws.FnExactExtendInside", spec := "fnExactExtendInside", apart := false, narrowed := true }
def FnExactExtendInsideUptoSaid : Prop := fnExactExtendInsideUptoRow.holds Try.pinned (OpenSpec.upto fnExactExtendInsideSpec)

/-- 'laws.FnExactExtendManiplex', WHERE WHAT IT READS IS OF BULK AT MOST 1048576: true; the input reads as it did. -/
def fnExactExtendManiplexUptoRow : OpenClaim := { program := "ytbamhgicdladkaa", sum := "a7792676fb41c4ec56afcc51913fdd3992645e4f0f35e269a554d87e1f95e1c6", func := "loop.example/g01108/laws.FnExactExtendManiplex", spec := "fnExactExtendManiplex", apart := false, narrowed := true }
def FnExactExtendManiplexUptoSaid : Prop := fnExactExtendManiplexUptoRow.holds Try.pinned (OpenSpec.upto fnExactExtendManiplexSpec)

/-- 'laws.FnExactDoubleCover', WHERE WHAT IT READS IS OF BULK AT MOST 1048576: true; the input reads as it did. -/
def fnExactDoubleCoverUptoRow : OpenClaim := { program := "ytbamhgicdladkaa", sum := "a7792676fb41c4ec56afcc51913fdd3992645e4f0f35e269a554d87e1f95e1c6", func := "loop.example/g01108/laws.FnExactDoubleCover", spec := "fnExactDoubleCover", unfollowed := true, recurses := true, apart := false, narrowed := true }
def FnExactDoubleCoverUptoSaid : Prop := fnExactDoubleCoverUptoRow.holds Try.pinned (OpenSpec.upto fnExactDoubleCoverSpec)

/-- 'laws.FnExactQuotientBy', WHERE WHAT IT READS IS OF BULK AT MOST 1048576: true; the input reads as it did. -/
def fnExactQuotientByUptoRow : OpenClaim := { program := "ytbamhgicdladkaa", sum := "a7792676fb41c4ec56afcc51913fdd3992645e4f0f35e269a554d87e1f95e1c6", func := "loop.example/g01108/laws.FnExactQuotientBy", spec := "fnExactQuotientBy", unfollowed := true, recurses := true, apart := false, narrowed := true }
def FnExactQuotientByUptoSaid : Prop := fnExactQuotientByUptoRow.holds Try.pinned (OpenSpec.upto fnExactQuotientBySpec)

/-- 'laws.FnExactIsSelfDual', WHERE WHAT IT READS IS OF BULK AT MOST 1048576: true; the input reads as it did. -/
def fnExactIsSelfDualUptoRow : OpenClaim := { program := "ytbamhgicdladkaa", sum := "a7792676fb41c4ec56afcc51913fdd3992645e4f0f35e269a554d87e1f95e1c6", func := "loop.example/g01108/laws.FnExactIsSelfDual", spec := "fnExactIsSelfDual", unfollowed := true, recurses := true, apart := false, narrowed := true }
def FnExactIsSelfDualUptoSaid : Prop := fnExactIsSelfDualUptoRow.holds Try.pinned (OpenSpec.upto fnExactIsSelfDualSpec)

/-- 'laws.FnExactDeckMoves', WHERE WHAT IT READS IS OF BULK AT MOST 1048576: true; the input reads as it did. -/
def fnExactDeckMovesUptoRow : OpenClaim := { program := "ytbamhgicdladkaa", sum := "a7792676fb41c4ec56afcc51913fdd3992645e4f0f35e269a554d87e1f95e1c6", func := "loop.example/g01108/laws.FnExactDeckMoves", spec := "fnExactDeckMoves", unfollowed := true, recurses := true, apart := false, narrowed := true }
def FnExactDeckMovesUptoSaid : Prop := fnExactDeckMovesUptoRow.holds Try.pinned (OpenSpec.upto fnExactDeckMovesSpec)

end Rows
end Go.Proofs.Ytbamhgicdladkaa
