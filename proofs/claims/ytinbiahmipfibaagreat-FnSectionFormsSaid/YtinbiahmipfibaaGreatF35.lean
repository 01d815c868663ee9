/- Contracts: ReplaceMoves, on both sides. -/
import Derived.Test.YtinbiahmipfibaaGreatF33
import Derived.Test.YtinbiahmipfibaaGreatF26
namespace Go.Mem
noncomputable instance (ms ws : List (List Int)) : Decidable (∀ w ∈ ws, IsWord ms w) := Classical.propDecidable _
/-- one to five words -/
def WordsOk (ms ws : List (List Int)) : Prop := 1 ≤ ws.length ∧ ws.length ≤ 5 ∧ ∀ w ∈ ws, IsWord ms w
noncomputable instance (ms ws : List (List Int)) : Decidable (WordsOk ms ws) := Classical.propDecidable _
noncomputable def rmL (ms ws : List (List Int)) : List (List Int) := if IsMan ms ∧ WordsOk ms ws then replL ms ws else []
noncomputable def rmC (ms ws : List (List Int)) : Int := if IsMan ms then (if WordsOk ms ws then replC ms ws else 2) else 1
section
variable {ms ws : List (List Int)}
theorem rm_1 (h : ¬ IsMan ms) : rmL ms ws = [] ∧ rmC ms ws = 1 := ⟨if_neg fun e => h e.1, if_neg h⟩
theorem rm_2 (hm : IsMan ms) (h : ¬ WordsOk ms ws) : rmL ms ws = [] ∧ rmC ms ws = 2 := ⟨if_neg fun e => h e.2, by unfold rmC; rw [if_pos hm, if_neg h]⟩
theorem rm_3 (hm : IsMan ms) (h : WordsOk ms ws) : rmL ms ws = replL ms ws ∧ rmC ms ws = replC ms ws := ⟨if_pos ⟨hm, h⟩, by unfold rmC; rw [if_pos hm, if_pos h]⟩
theorem rmL_len (ms ws : List (List Int)) : 1 + tot (rmL ms ws) ≤ 4000000000000000000 := by
  unfold rmL
  split
  · exact replL_len _ _
  · simp [tot]
end
end Go.Mem
namespace Go.Proofs.YtinbiahmipfibaaGreat
open Go.Mem Go.RowKit
set_option linter.unusedVariables false
end Go.Proofs.YtinbiahmipfibaaGreat
