/- Texts laid together: F13 F15 F16. -/
import Derived.Test.YtablpijnjkncfaaGreatFB
import Derived.Test.YtablpijnjkncfaaGreatPA
import Derived.Test.YtablpijnjkncfaaGreatPB
/- Contracts: the first isomorphism. -/
namespace Go.Proofs.YtablpijnjkncfaaGreat
open Go.Mem Go.RowKit
theorem isoOf_cov {ms ks : List (List Int)} (hn : nf ms = nf ks) : isoOf ms ks = (covers ms ks (nf ks)).head? := by unfold isoOf; rw [if_pos hn]

end Go.Proofs.YtablpijnjkncfaaGreat

/- Contracts: CountCoverings, AreCovered, AreIsomorphic, on both sides. -/
namespace Go.Proofs.YtablpijnjkncfaaGreat
open Go.Mem Go.RowKit

/-- the code of two maniplexes -/
noncomputable def manCode2 (ms ks : List (List Int)) : Int := if IsMan ms ∧ IsMan ks then 0 else 1
noncomputable def cntCov (ms ks : List (List Int)) : Int := if IsMan ms ∧ IsMan ks then ((covers ms ks (nf ks)).length : Nat) else 0
noncomputable def areCov (ms ks : List (List Int)) : Bool := if IsMan ms ∧ IsMan ks then decide (0 < ((covers ms ks (nf ks)).length : Int)) else false
noncomputable def areIso (ms ks : List (List Int)) : Bool := if IsMan ms ∧ IsMan ks then (isoOf ms ks).isSome else false

end Go.Proofs.YtablpijnjkncfaaGreat

/- Contracts: AutomorphismTo, AutomorphismsOf, CoveringOf, IsomorphismOf, FlagOrbits, IsRegular, on both sides. -/
namespace Go.Proofs.YtablpijnjkncfaaGreat
open Go.Mem Go.RowKit
set_option linter.unusedVariables false


theorem MapR.oi {w : World} {B : Nat} {T : TypeId} {r : Value} {m : Option (List Int)} (h : MapR w B T r m) : OI w B T r (m.getD []) := by
  cases m with
  | none => obtain rfl : r = .slice none 0 0 := h; exact OI.nil w B T
  | some xs => exact h.1
theorem inB_iff {n lo hi : Int} : inB n lo hi = decide (lo ≤ n ∧ n ≤ hi) := by
  unfold inB; by_cases h1 : lo ≤ n <;> by_cases h2 : n ≤ hi <;> simp [h1, h2]
theorem inB_flag {n : Int} {m : Nat} : inB n 0 ((m : Int) - 1) = decide (0 ≤ n ∧ n < m) := by
  rw [inB_iff, decide_eq_decide]; omega

set_option maxRecDepth 100000 in
theorem l02Flag_any (v : Value) (ms : List (List Int)) (f : Int) (w : World) (hv : RL w v ms) (h1 : 1 ≤ ms.length) (h4 : nf ms ≤ 400) :
    Ret Tryz.prog 116 #[.agg #[v], .int .i64 f] w fun r w' => r = .bool (decide (0 ≤ f ∧ f < nf ms)) ∧ Below w.heap.size w w' := by
  have shv := hv.sv
  have hb := Below.refl w.heap.size w
  refine enter2 10 Tryz.func116 rfl Tryz.ntmps116 rfl (fun fr => ?_)
  refine go ?_
  refine s_box (wn rfl) rfl rfl (agg_cells shv) (fun w1 hbx _ hp hg => ?_)
  have hb1 := below_of_grownBy hg
  replace hv := hv.below hb1
  replace hb := hb.trans (hb1.mono hb.size)
  clear hg hp hb1
  generalize (⟨w.heap.size, 0, none⟩ : Addr) = p at *
  refine go ?_
  refine s_call1 (wn rfl) rfl rfl (l02Flags_any _ _ _ hv h1) ?_
  rintro _ w2 ⟨rfl, hb2⟩
  replace hv := hv.below hb2
  replace hbx := cell_below hbx hb2
  replace hb := hb.trans (hb2.mono hb.size)
  refine go ?_
  refine s_call3 (wn rfl) rfl rfl rfl rfl (l01In_any _ _ _ _) ?_
  rintro _ _ ⟨rfl, rfl⟩
  refine go ?_
  exact end_one Tryz.results116 rfl ⟨by rw [inB_flag], hb⟩

set_option maxRecDepth 100000 in
theorem hasFlag_any (v : Value) (pv : Addr) (ms : List (List Int)) (f : Int) (w : World) (hv : RL w v ms) (hxv : w.cell? pv = some v) (h1 : 1 ≤ ms.length) (h4 : nf ms ≤ 400) :
    Ret Tryz.prog 53 #[.pointer (some pv), .int .i64 f] w fun r w' => r = .bool (decide (0 ≤ f ∧ f < nf ms)) ∧ w = w' := by
  have shv := hv.sv
  have hb := Below.refl w.heap.size w
  refine enter2 10 Tryz.func53 rfl Tryz.ntmps53 rfl (fun fr => ?_)
  refine go ?_
  refine s_call1 (wn rfl) rfl rfl (flags_any _ _ _ _ hxv hv h1) ?_
  rintro _ _ ⟨rfl, rfl⟩
  refine go ?_
  refine s_call3 (wn rfl) rfl rfl rfl rfl (within_any _ _ _ _) ?_
  rintro _ _ ⟨rfl, rfl⟩
  refine go ?_
  exact end_one Tryz.results53 rfl ⟨by rw [inB_flag], rfl⟩

end Go.Proofs.YtablpijnjkncfaaGreat
