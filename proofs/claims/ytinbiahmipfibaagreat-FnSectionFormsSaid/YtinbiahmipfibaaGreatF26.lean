/- Contracts: rows taken out of an owned list, by a function that tells which. -/
import Derived.Test.YtinbiahmipfibaaGreatFG
import Derived.Test.YtinbiahmipfibaaGreatWC
import Derived.Test.YtinbiahmipfibaaGreatFE
namespace Go.Proofs.YtinbiahmipfibaaGreat
open Go.Mem Go.RowKit
set_option linter.unusedVariables false

/-- where the first row is for which p holds (or -1) -/
def idxR (p : List Int → Bool) (xss : List (List Int)) (k : Nat) : Prop := k ≤ xss.length ∧ (∀ i, i < k → p (gr xss i) = false) ∧ (k < xss.length → p (gr xss k) = true)

theorem SV.cells {v : Value} {m : Nat} (h : SV v m) : v.cells = #[v] := by
  obtain ⟨a, cap, rfl, _⟩ := h.out
  rfl
theorem OI.beside {w w' : World} {B B' E : Nat} {T U : TypeId} {v ob : Value} {xs : List Int} {xss : List (List Int)} (h : OI w B U v xs) (ho : OM w B' E T U ob xss) (hT : T ≠ U) (hg : w.grownBy w' ob.ownBlock) : OI w' B U v xs := by
  obtain ⟨vs, h1, _⟩ := ho.out
  exact h.kept hg (h.own.apart_type h1 (fun e => hT e.symm))
theorem filterMap_take {f : Int → Option (List Int)} {L : List Int} {k : Nat} (hk : k < L.length) : (L.take (k + 1)).filterMap f = (L.take k).filterMap f ++ (f (gi L k)).toList := by
  rw [take_gi hk, List.filterMap_append]
  cases h : f (gi L k) <;> simp [h]
theorem filterMap_le {f : Int → Option (List Int)} (L : List Int) : (L.filterMap f).length ≤ L.length := List.length_filterMap_le f L

end Go.Proofs.YtinbiahmipfibaaGreat
