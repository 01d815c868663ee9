/- What the rows share: an argument opened. -/
import Derived.Test.YtmfegkjjfmmoaaaOpn
import Derived.Test.YtmfegkjjfmmoaaaTy
import Derived.WalkKit
import Derived.ShutString
namespace Go.Proofs.Ytmfegkjjfmmoaaa
open Go.Mem Go.ChangeShapes Go.WideShapes Go.ChangeAt Go.RowKit
set_option linter.unusedVariables false

set_option maxRecDepth 100000 in
theorem own : ownKnob Try.prog.godebug = none := by kernel_rfl
set_option maxRecDepth 100000 in
theorem laidOut : laidOutB Try.prog = true := by kernel_rfl
section
variable {w : World} {b0 b : Nat} {v : Value} {H : Type} {enc : TypeId × Value → H} {d : DataW H} {ps : List MemPlace}
set_option maxRecDepth 100000 in
/-- an argument that is a maniplex -/
theorem open_arg (hok : Value.okWide Try.prog w .any b0 24 v) (h : DataW.Trod enc Try.prog w b (fun _ => true) true 24 v d ps) : ∃ u xss, v = .agg #[u] ∧ RL w u xss :=
  open_man Try.underlying24 rfl rfl (by kernel_rfl) Try.underlying22 (by kernel_rfl) Try.underlying26 Try.underlying2 (by kernel_rfl) (by kernel_rfl) hok h
set_option maxRecDepth 100000 in
/-- an argument that is a list of numbers -/
theorem open_arg_I (hok : Value.okWide Try.prog w .any b0 26 v) (h : DataW.Trod enc Try.prog w b (fun _ => true) true 26 v d ps) : ∃ xs, IL w v xs := by
  obtain ⟨a, len, cap, rfl⟩ := okWide_slice Try.underlying26 hok
  obtain ⟨fuel, hf⟩ := h
  exact open_IL Try.underlying26 Try.underlying2 (by kernel_rfl) (u := .slice a len cap) hf
set_option maxRecDepth 100000 in
/-- an argument that is a list of rows -/
theorem open_arg_R (hok : Value.okWide Try.prog w .any b0 22 v) (h : DataW.Trod enc Try.prog w b (fun _ => true) true 22 v d ps) : ∃ xs, RL w v xs := by
  obtain ⟨a, len, cap, rfl⟩ := okWide_slice Try.underlying22 hok
  obtain ⟨fuel, hf⟩ := h
  exact open_RL Try.underlying22 Try.underlying26 Try.underlying2 (by kernel_rfl) (by kernel_rfl) (u := .slice a len cap) hf
set_option maxRecDepth 100000 in
/-- an argument that is a number -/
theorem open_arg_n (hok : Value.okWide Try.prog w .any b0 2 v) : ∃ n, v = .int .i64 n := okWide_int Try.underlying2 hok
end
end Go.Proofs.Ytmfegkjjfmmoaaa
