/-
  No cell of these rows narrows 'for every input' (looked for: loops, veiled, ifaces, maps, wideKeys, modest, calm, conditions, laid).
  DERIVED. THE GIVEN ROWS OF THIS SEAT. 3 by the template 'for every input the law returns true; each argument reads behind the call as it read before'; 0 by the template 'total and deterministic' (their statements: YtlfomllgmdahfaaTotals.lean).
  GIVEN WITH THE SEED: the statements are not yours to turn. If you find one false, say at which input.
  Laid BY PROGRAM, IN A SANDBOX (cutbox-rows.mjs): the forced cells as the released guide's own fill.sh prints them over the translation e6bea749ba5fa38d… (all of the seat's roots in one cut). By AI agents, Wed Nov 11 2026. No macro, syntax, notation, axiom, sorry.
-/
import Derived.Test.YtlfomllgmdahfaaChecked
import GoSem.Claim
import GoSem.ClaimJoined
import GoSem.ClaimMapViews
import Derived.JoinedTies
import Derived.KernelRfl
namespace Go.Proofs.Ytlfomllgmdahfaa
/- THE CELL 'sum', in the pinned program and in every row, IS THE sha256 OF THE DUMP (.gsa) THAT YtlfomllgmdahfaaProg.lean LOADS. Nothing in Lean hashes anything: it is a label: what it is worth is what the hold of that sum in a sandbox is worth. -/
noncomputable def Try.pinned : Pinned := { name := "ytlfomllgmdahfaa", sum := "e6bea749ba5fa38d2edf1ae013f49c4b2237cdc7412901b4665a692e6884bddb", checked := Try.checked }
namespace Rows
def none {H : Type} : Left H := { results := [], args := [] }

/-- 'laws.FnExactHasEqualVertexFigures': WHATEVER THE INPUT: true; the input reads as it did. -/
def fnExactHasEqualVertexFiguresSpec : ChangeSpec := { name := "fnExactHasEqualVertexFigures", fn := fun _ => fun
  | [d] => { results := [.lit (.bool true)], args := [d] }
  | _ => none }
def fnExactHasEqualVertexFiguresRow : OpenClaim := { program := "ytlfomllgmdahfaa", sum := "e6bea749ba5fa38d2edf1ae013f49c4b2237cdc7412901b4665a692e6884bddb", func := "loop.example/g01108/laws.FnExactHasEqualVertexFigures", spec := "fnExactHasEqualVertexFigures", unfollowed := true, recurses := true, apart := false }
def FnExactHasEqualVertexFiguresSaid : Prop := fnExactHasEqualVertexFiguresRow.holds Try.pinned (OpenSpec.ofChange fnExactHasEqualVertexFiguresSpec)

/-- ITS FALSE NEIGHBOUR: 'it returns false'. Refute it at one input. -/
def fnExactHasEqualVertexFiguresWrong : ChangeSpec := { name := "fnExactHasEqualVertexFigures", fn := fun _ => fun
  | [d] => { results := [.lit (.bool false)], args := [d] }
  | _ => none }
def FnExactHasEqualVertexFiguresWrongFalsely : Prop := fnExactHasEqualVertexFiguresRow.holds Try.pinned (OpenSpec.ofChange fnExactHasEqualVertexFiguresWrong)

/-- 'laws.FnExactSectionKinds': WHATEVER THE INPUT: true; the input reads as it did. -/
def fnExactSectionKindsSpec : ChangeSpec := { name := "fnExactSectionKinds", fn := fun _ => fun
  | [d1, d2, d3] => { results := [.lit (.bool true)], args := [d1, d2, d3] }
  | _ => none }
def fnExactSectionKindsRow : OpenClaim := { program := "ytlfomllgmdahfaa", sum := "e6bea749ba5fa38d2edf1ae013f49c4b2237cdc7412901b4665a692e6884bddb", func := "loop.example/g01108/laws.FnExactSectionKinds", spec := "fnExactSectionKinds", unfollowed := true, recurses := true, apart := false }
def FnExactSectionKindsSaid : Prop := fnExactSectionKindsRow.holds Try.pinned (OpenSpec.ofChange fnExactSectionKindsSpec)

/-- ITS FALSE NEIGHBOUR: 'it returns false'. Refute it at one input. -/
def fnExactSectionKindsWrong : ChangeSpec := { name := "fnExactSectionKinds", fn := fun _ => fun
  | [d1, d2, d3] => { results := [.lit (.bool false)], args := [d1, d2, d3] }
  | _ => none }
def FnExactSectionKindsWrongFalsely : Prop := fnExactSectionKindsRow.holds Try.pinned (OpenSpec.ofChange fnExactSectionKindsWrong)

/-- 'laws.FnExactQuotientForms': WHATEVER THE INPUT: true; the input reads as it did. -/
def fnExactQuotientFormsSpec : ChangeSpec := { name := "fnExactQuotientForms", fn := fun _ => fun
  | [d] => { results := [.lit (.bool true)], args := [d] }
  | _ => none }
def fnExactQuotientFormsRow : OpenClaim := { program := "ytlfomllgmdahfaa", sum := "e6bea749ba5fa38d2edf1ae013f49c4b2237cdc7412901b4665a692e6884bddb", func := "loop.example/g01108/laws.FnExactQuotientForms", spec := "fnExactQuotientForms", unfollowed := true, recurses := true, apart := false }
def FnExactQuotientFormsSaid : Prop := fnExactQuotientFormsRow.holds Try.pinned (OpenSpec.ofChange fnExactQuotientFormsSpec)

/-- ITS FALSE NEIGHBOUR: 'it returns false'. Refute it at one input. -/
def fnExactQuotientFormsWrong : ChangeSpec := { name := "fnExactQuotientForms", fn := fun _ => fun
  | [d] => { results := [.lit (.bool false)], args := [d] }
  | _ => none }
def FnExactQuotientFormsWrongFalsely : Prop := fnExactQuotientFormsRow.holds Try.pinned (OpenSpec.ofChange fnExactQuotientFormsWrong)

/- THE SECOND FORM. 'bulk': how many values and letters a reading holds, each counted each time it is reached (what is shared counts as often as it is met; a slice's spare places count too). A statement '..UptoSaid' is the law's where the arguments, and the package variables that the reading takes, are together of bulk at most 1048576: NARROWER than '..Said'. Prove '..Said' where nothing that the law and all that it calls make is longer than what came in: it says more and counts as full. Else prove '..UptoSaid'. A law counts once. -/
mutual
def uptoBulk {H : Type} : DataW H → Nat
  | .lit (.string bytes) => bytes.length + 1
  | .lit _ => 1
  | .nil => 1
  | .ptr d => uptoBulk d + 1
  | .slice elems spare => uptoBulkAll elems + uptoBulkAll spare + 1
  | .agg parts => uptoBulkAll parts + 1
  | .iface _ d => uptoBulk d + 1
  | .map entries => uptoBulkEntries entries + 1
  | .held _ => 1
def uptoBulkAll {H : Type} : List (DataW H) → Nat
  | [] => 0
  | d :: r => uptoBulk d + uptoBulkAll r
def uptoBulkEntries {H : Type} : List (Lit × DataW H) → Nat
  | [] => 0
  | x :: r => uptoBulkEntry x + uptoBulkEntries r
def uptoBulkEntry {H : Type} : Lit × DataW H → Nat
  | (.string bytes, d) => bytes.length + uptoBulk d + 1
  | (_, d) => uptoBulk d + 1
 end
def uptoSmall : (H : Type) → List (DataW H) → Bool := fun _ ds => decide (uptoBulkAll ds ≤ 1048576)
def OpenSpec.upto (s : _root_.Go.ChangeSpec) : _root_.Go.OpenSpec := { _root_.Go.OpenSpec.ofChange s with cond := some uptoSmall }

/-- 'laws.FnExactHasEqualVertexFigures', WHERE WHAT IT READS IS OF BULK AT MOST 1048576: true; the input reads as it did. -/
def fnExactHasEqualVertexFiguresUptoRow : OpenClaim := { program := "ytlfomllgmdahfaa", sum := "e6bea749ba5fa38d2edf1ae013f49c4b2237cdc7412901b4665a692e6884bddb", func := "loop.example/g01108/laws.FnExactHasEqualVertexFigures", spec := "fnExactHasEqualVertexFigures", unfollowed := true, recurses := true, apart := false, narrowed := true }
def FnExactHasEqualVertexFiguresUptoSaid : Prop := fnExactHasEqualVertexFiguresUptoRow.holds Try.pinned (OpenSpec.upto fnExactHasEqualVertexFiguresSpec)

/-- 'laws.FnExactSectionKinds', WHERE WHAT IT READS IS OF BULK AT MOST 1048576: true; the input reads as it did. -/
def fnExactSectionKindsUptoRow : OpenClaim := { program := "ytlfomllgmdahfaa", sum := "e6bea749ba5fa38d2edf1ae013f49c4b2237cdc7412901b4665a692e6884bddb", func := "loop.example/g01108/laws.FnExactSectionKinds", spec := "fnExactSectionKinds", unfollowed := true, recurses := true, apart := false, narrowed := true }
def FnExactSectionKindsUptoSaid : Prop := fnExactSectionKindsUptoRow.holds Try.pinned (OpenSpec.upto fnExactSectionKindsSpec)

/-- 'laws.FnExactQuotientForms', WHERE WHAT IT READS IS OF BULK AT MOST 1048576: true; the input reads as it did. -/
def fnExactQuotientFormsUptoRow : OpenClaim := { program := "ytlfomllgmdahfaa", sum := "e6bea749ba5fa38d2edf1ae013f49c4b2237cdc7412901b4665a692e6884bddb", func := "loop.example/g01108/laws.FnExactQuotientForms", spec := "fnExactQuotientForms", unfollowed := true, recurses := true, apart := false, narrowed := true }
def FnExactQuotientFormsUptoSaid : Prop := fnExactQuotientFormsUptoRow.holds Try.pinned (OpenSpec.upto fnExactQuotientFormsSpec)

end Rows
end Go.Proofs.Ytlfomllgmdahfaa
