/- Contracts: PetrieLengths, WordPeriod, on both sides. -/
import Derived.Test.YtablpijnjkncfaaGreatF45
namespace Go.Mem
open Go.RowKit
/-- u lies elsewhere than v -/
def Ap (u v : Value) : Prop := u.ownBlock = none ∨ u.ownBlock ≠ v.ownBlock
theorem Ap.symm {u v : Value} (h : Ap u v) : Ap v u := by
  unfold Ap at *
  cases hv : v.ownBlock with
  | none => exact .inl rfl
  | some g =>
    refine .inr fun e => ?_
    rcases h with h | h
    · rw [h] at e; exact absurd e (by simp)
    · exact h (by rw [hv]; exact e.symm)
theorem Ap.grow {u v v' : Value} {n : Nat} (h : Ap u v) (hu : ∀ g, u.ownBlock = some g → g < n) (hv : v'.ownBlock = v.ownBlock ∨ v'.ownBlock = some n) : Ap u v' := by
  rcases hv with hv | hv
  · unfold Ap; rw [hv]; exact h
  · unfold Ap
    cases hu' : u.ownBlock with
    | none => exact .inl rfl
    | some g =>
      refine .inr fun e => ?_
      rw [hv] at e
      have := hu g hu'
      have := Option.some.inj e
      omega
theorem Ap.new {u v : Value} {n : Nat} (hu : ∀ g, u.ownBlock = some g → g < n) (hv : v.ownBlock = some n) : Ap u v := by
  unfold Ap
  cases hu' : u.ownBlock with
  | none => exact .inl rfl
  | some g =>
    refine .inr fun e => ?_
    rw [hv] at e
    have := hu g hu'
    have := Option.some.inj e
    omega
theorem OM.kept' {w w' : World} {B E : Nat} {T U : TypeId} {v u : Value} {xss : List (List Int)} (h : OM w B E T U v xss) (hg : w.grownBy w' u.ownBlock) (hu : ∀ g, u.ownBlock = some g → g < B) : OM w' B E T U v xss := by
  cases hq : u.ownBlock with
  | none => rw [hq] at hg; exact h.below (below_of_grownBy hg)
  | some g => rw [hq] at hg; exact h.kept hg (hu g hq)
theorem take_gr' {xss : List (List Int)} {i : Nat} (h : i < xss.length) : xss.take (i + 1) = xss.take i ++ [gr xss i] := by
  rw [List.take_succ_eq_append_getElem h]; simp [gr, List.getD, h]
theorem per_take (n : Nat) (p : List Int) (i : Nat) : (List.range (i + 1)).map (fun f : Nat => (per n p f : Int)) = (List.range i).map (fun f : Nat => (per n p f : Int)) ++ [(per n p i : Int)] := by simp [List.range_succ]
end Go.Mem
namespace Go.Proofs.YtablpijnjkncfaaGreat
open Go.Mem Go.RowKit
set_option linter.unusedVariables false
set_option linter.unusedSimpArgs false
end Go.Proofs.YtablpijnjkncfaaGreat
