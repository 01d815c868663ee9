/- What the rows share: an argument opened. -/
import Derived.Test.YtebcaajlkealoaaOpn
import Derived.Test.YtebcaajlkealoaaTy
import Derived.WalkKit
import Derived.ShutString
namespace Go.Proofs.Ytebcaajlkealoaa
open Go.Mem Go.ChangeShapes Go.WideShapes Go.ChangeAt Go.RowKit
set_option linter.unusedVariables false

theorem own : ownKnob Try.prog.godebug = none := by kernel_rfl
theorem laidOut : laidOutB Try.prog = true := by kernel_rfl
section
variable {w : World} {b0 b : Nat} {v : Value} {H : Type} {enc : TypeId × Value → H} {d : DataW H} {ps : List MemPlace}
/-- an argument that is a maniplex -/
theorem open_arg (hok : Value.okWide Try.prog w .any b0 24 v) (h : DataW.Trod enc Try.prog w b (fun _ => true) true 24 v d ps) : ∃ u xss, v = .agg #[u] ∧ RL w u xss :=
  open_man Try.underlying24 rfl rfl (by kernel_rfl) Try.underlying22 (by kernel_rfl) Try.underlying36 Try.underlying2 (by kernel_rfl) (by kernel_rfl) hok h
/-- an argument that is a list of numbers -/
theorem open_arg_I (hok : Value.okWide Try.prog w .any b0 36 v) (h : DataW.Trod enc Try.prog w b (fun _ => true) true 36 v d ps) : ∃ xs, IL w v xs := by
  obtain ⟨a, len, cap, rfl⟩ := okWide_slice Try.underlying36 hok
  obtain ⟨fuel, hf⟩ := h
  exact open_IL Try.underlying36 Try.underlying2 (by kernel_rfl) (u := .slice a len cap) hf
/-- an argument that is a list of rows -/
theorem open_arg_R (hok : Value.okWide Try.prog w .any b0 22 v) (h : DataW.Trod enc Try.prog w b (fun _ => true) true 22 v d ps) : ∃ xs, RL w v xs := by
  obtain ⟨a, len, cap, rfl⟩ := okWide_slice Try.underlying22 hok
  obtain ⟨fuel, hf⟩ := h
  exact open_RL Try.underlying22 Try.underlying36 Try.underlying2 (by kernel_rfl) (by kernel_rfl) (u := .slice a len cap) hf
/-- an argument that is a number -/
theorem open_arg_n (hok : Value.okWide Try.prog w .any b0 2 v) : ∃ n, v = .int .i64 n := okWide_int Try.underlying2 hok
end
end Go.Proofs.Ytebcaajlkealoaa
