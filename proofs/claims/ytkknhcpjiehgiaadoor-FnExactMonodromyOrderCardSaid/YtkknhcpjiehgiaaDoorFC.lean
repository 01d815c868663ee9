/- Texts laid together: F13 F15 F16. -/
import Derived.Test.YtkknhcpjiehgiaaDoorFB
import Derived.Test.YtkknhcpjiehgiaaDoorPA
import Derived.Test.YtkknhcpjiehgiaaDoorPB
/- Contracts: the first isomorphism. -/
namespace Go.Proofs.YtkknhcpjiehgiaaDoor
open Go.Mem Go.RowKit
theorem isoOf_cov {ms ks : List (List Int)} (hn : nf ms = nf ks) : isoOf ms ks = (covers ms ks (nf ks)).head? := by unfold isoOf; rw [if_pos hn]

end Go.Proofs.YtkknhcpjiehgiaaDoor

/- Contracts: CountCoverings, AreCovered, AreIsomorphic, on both sides. -/
namespace Go.Proofs.YtkknhcpjiehgiaaDoor
open Go.Mem Go.RowKit

/-- the code of two maniplexes -/
noncomputable def manCode2 (ms ks : List (List Int)) : Int := if IsMan ms ∧ IsMan ks then 0 else 1
noncomputable def cntCov (ms ks : List (List Int)) : Int := if IsMan ms ∧ IsMan ks then ((covers ms ks (nf ks)).length : Nat) else 0
noncomputable def areCov (ms ks : List (List Int)) : Bool := if IsMan ms ∧ IsMan ks then decide (0 < ((covers ms ks (nf ks)).length : Int)) else false
noncomputable def areIso (ms ks : List (List Int)) : Bool := if IsMan ms ∧ IsMan ks then (isoOf ms ks).isSome else false

end Go.Proofs.YtkknhcpjiehgiaaDoor

/- Contracts: AutomorphismTo, AutomorphismsOf, CoveringOf, IsomorphismOf, FlagOrbits, IsRegular, on both sides. -/
namespace Go.Proofs.YtkknhcpjiehgiaaDoor
open Go.Mem Go.RowKit
set_option linter.unusedVariables false


theorem MapR.oi {w : World} {B : Nat} {T : TypeId} {r : Value} {m : Option (List Int)} (h : MapR w B T r m) : OI w B T r (m.getD []) := by
  cases m with
  | none => obtain rfl : r = .slice none 0 0 := h; exact OI.nil w B T
  | some xs => exact h.1
theorem inB_iff {n lo hi : Int} : inB n lo hi = decide (lo ≤ n ∧ n ≤ hi) := by
  unfold inB; by_cases h1 : lo ≤ n <;> by_cases h2 : n ≤ hi <;> simp [h1, h2]
theorem inB_flag {n : Int} {m : Nat} : inB n 0 ((m : Int) - 1) = decide (0 ≤ n ∧ n < m) := by
  rw [inB_iff, decide_eq_decide]; omega

end Go.Proofs.YtkknhcpjiehgiaaDoor
