/- Contracts: DualOf, on both sides. -/
import Derived.Test.YtinbiahmipfibaaGreatF33
import Derived.Test.YtinbiahmipfibaaGreatFG
namespace Go.Mem
theorem revw_take {k i : Nat} (h : i < k) : (revw k).take (i + 1) = (revw k).take i ++ [[(k : Int) - 1 - i]] := by
  rw [List.take_succ_eq_append_getElem (by simpa [revw] using h)]
  simp [revw]
theorem revw_words {ms : List (List Int)} : ∀ w ∈ revw ms.length, IsWord ms w := fun w hw => by
  obtain ⟨i, hi, rfl⟩ := List.mem_map.1 hw
  have := List.mem_range.1 hi
  exact ⟨by simp, fun x hx => by simp at hx; subst hx; omega⟩
theorem revw_len (k : Nat) : (revw k).length = k := by simp [revw]
theorem repl_rev {ms : List (List Int)} (hm : IsMan ms) : repl ms (revw ms.length) = frm (nf ms) ms.reverse 0 := by unfold repl; rw [wds_rev hm]
end Go.Mem
namespace Go.Proofs.YtinbiahmipfibaaGreat
open Go.Mem Go.RowKit
set_option linter.unusedVariables false
end Go.Proofs.YtinbiahmipfibaaGreat
