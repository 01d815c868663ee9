/- Contracts: DoubleCover, on both sides. -/
import Derived.Test.YtlodnhflfijomaaF33
import Derived.Test.YtlodnhflfijomaaF39
namespace Go.Mem
set_option linter.unusedVariables false
/-- a move of the double cover; up to the flag k -/
def dcvTo (m : List Int) (k : Nat) : List Int := (List.range k).map fun f : Nat => 2 * gi m ((f / 2 : Nat) : Int) + 1 - ((f % 2 : Nat) : Int)
def dcv (m : List Int) : List Int := dcvTo m (2 * m.length)
theorem dcvTo_succ (m : List Int) (k : Nat) : dcvTo m (k + 1) = dcvTo m k ++ [2 * gi m ((k / 2 : Nat) : Int) + 1 - ((k % 2 : Nat) : Int)] := by
  unfold dcvTo; rw [List.range_succ, List.map_append]; rfl
theorem dcvTo_len (m : List Int) (k : Nat) : (dcvTo m k).length = k := by simp [dcvTo]
theorem dcvTo_two (m : List Int) (k : Nat) : dcvTo m (2 * (k + 1)) = dcvTo m (2 * k) ++ [2 * gi m k + 1, 2 * gi m k] := by
  rw [show 2 * (k + 1) = 2 * k + 1 + 1 by omega, dcvTo_succ, dcvTo_succ, show 2 * k / 2 = k by omega, show 2 * k % 2 = 0 by omega, show (2 * k + 1) / 2 = k by omega, show (2 * k + 1) % 2 = 1 by omega]
  simp
section
variable {ms : List (List Int)}
noncomputable def dcC (ms : List (List Int)) : Int := if IsMan ms then (if Ori ms then 5 else if 200 < nf ms then 3 else 0) else 1
noncomputable def dcL (ms : List (List Int)) : List (List Int) := if dcC ms = 0 then ms.map dcv else []
theorem dc_1 (h : ¬ IsMan ms) : dcL ms = [] ∧ dcC ms = 1 := by
  have e : dcC ms = 1 := if_neg h
  exact ⟨if_neg (by rw [e]; decide), e⟩
theorem dc_2 (hm : IsMan ms) (h : Ori ms) : dcL ms = [] ∧ dcC ms = 5 := by
  have e : dcC ms = 5 := by unfold dcC; rw [if_pos hm, if_pos h]
  exact ⟨if_neg (by rw [e]; decide), e⟩
theorem dc_3 (hm : IsMan ms) (h : ¬ Ori ms) (h2 : 200 < nf ms) : dcL ms = [] ∧ dcC ms = 3 := by
  have e : dcC ms = 3 := by unfold dcC; rw [if_pos hm, if_neg h, if_pos h2]
  exact ⟨if_neg (by rw [e]; decide), e⟩
theorem dc_4 (hm : IsMan ms) (h : ¬ Ori ms) (h2 : ¬ 200 < nf ms) : dcL ms = ms.map dcv ∧ dcC ms = 0 := by
  have e : dcC ms = 0 := by unfold dcC; rw [if_pos hm, if_neg h, if_neg h2]
  exact ⟨if_pos e, e⟩
theorem dcL_len (ms : List (List Int)) : 1 + tot (dcL ms) ≤ 4000000000000000000 := by
  by_cases hm : IsMan ms
  · unfold dcL
    split
    · have r5 := hm.m0.r5
      have f4 := hm.m0.f400
      refine rows_tot (n := 1000) (by simp; omega) (fun xs hx => ?_) (by omega)
      obtain ⟨m, hm', rfl⟩ := List.mem_map.1 hx
      have := (hm.syst m hm').1
      simp [dcv, dcvTo_len]; omega
    · simp [tot]
  · rw [(dc_1 hm).1]; simp [tot]
end
end Go.Mem
namespace Go.Proofs.Ytlodnhflfijomaa
open Go.Mem Go.RowKit
set_option linter.unusedVariables false
set_option linter.unusedSimpArgs false
end Go.Proofs.Ytlodnhflfijomaa
