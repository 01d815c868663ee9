/- Texts laid together: F22 F23. -/
import Derived.Test.YtinbiahmipfibaaGreatFD
import Derived.Test.YtinbiahmipfibaaGreatPC
import Derived.Test.YtinbiahmipfibaaGreatWC
import Derived.Test.YtinbiahmipfibaaGreatFE
/- Contracts: StandardAutomorphisms, SymmetryType, on both sides. -/
namespace Go.Proofs.YtinbiahmipfibaaGreat
open Go.Mem Go.RowKit
set_option linter.unusedVariables false


theorem l01Own_any (v : Value) (xs : List Int) (w : World) (hv : IL w v xs) (hl : xs.length ≤ 1000000) :
    Ret Tryz.prog 84 #[v] w fun r w' => OI w' w.heap.size 2 r xs ∧ Below w.heap.size w w' := by
  refine enter1 6 Tryz.func84 rfl Tryz.ntmps84 rfl (fun fr => ?_)
  refine go ?_
  refine s_build0 (B := w.heap.size) (wn rfl) rfl (Nat.le_refl _) (fun ob w1 ho so hg1 _ => ?_)
  have hb1 := below_of_grownBy hg1
  have hv := hv.below hb1
  have h1 := hb1.size
  refine go ?_
  refine s_appendI (wn rfl) rfl rfl rfl ho hv (by simp; omega) h1 (fun ob' w2 ho2 so2 hg2 _ => ?_)
  have hb2 := hb1.trans (ho.below_of hg2 h1)
  refine go ?_
  exact end_one Tryz.results84 rfl ⟨by simpa using ho2, hb2⟩

theorem l01Index_any (v : Value) (xs : List Int) (a : Int) (w : World) (hv : IL w v xs) :
    Ret Tryz.prog 56 #[v, .int .i64 a] w fun r w' => r = .int .i64 (idxOf xs a) ∧ w = w' := by
  have sv := hv.sv
  have scap := sv.le
  refine enter2 19 Tryz.func56 rfl Tryz.ntmps56 rfl (fun fr => ?_)
  refine go ?_
  refine w_loop (fun k fr w' => ∃ (i : Nat), k = xs.length - i ∧ i ≤ xs.length ∧ fr 0 = v ∧ fr 1 = .int .i64 a ∧ fr 5 = .int .i64 i ∧ (∀ j : Nat, j < i → gi xs j ≠ a) ∧ w = w') xs.length
    ⟨0, rfl, Nat.zero_le _, rfl, rfl, rfl, fun j hj => by omega, rfl⟩ ?_
  rintro k fr _ ⟨i, rfl, hi, f0, f1, f5, hall, rfl⟩
  refine know (t := 0) f0 ?_; refine know (t := 1) f1 ?_; refine know (t := 5) f5 ?_
  refine go ?_
  refine cond_dec rfl (fun hlt => ?_) (fun hge => ?_)
  · refine go ?_
    refine cond_dec rfl (fun he => ?_) (fun hne => ?_)
    · refine go ?_
      exact end_one Tryz.results56 rfl ⟨by rw [idxOf_hit (by omega) he hall], rfl⟩
    · refine go ?_
      exact ⟨xs.length - (i + 1), by omega, i + 1, rfl, by omega, rfl, rfl, rfl, fun j hj => by by_cases hji : j = i; (subst hji; exact hne); exact hall j (by omega), rfl⟩
  · obtain rfl : i = xs.length := by omega
    refine go ?_
    exact end_one Tryz.results56 rfl ⟨by rw [idxOf_none hall], rfl⟩

theorem move_comm {ms : List (List Int)} (hm : IsMan ms) {j : Nat} (hj : j < ms.length) : Comm (nf ms) (auts ms) (gr ms j) := by
  refine ⟨(hm.syst.row (j := (j : Int)) (by omega) (by omega)).1, fun x h0 hx => hm.syst.at (j := (j : Int)) (by omega) (by omega) ⟨h0, hx⟩, fun p hp x h0 hx => ?_⟩
  exact (((mem_auts hm).1 hp).mv j hj x h0 hx).symm
theorem map_take_succ {g : List Int → List Int} {ms : List (List Int)} {i : Nat} (h : i < ms.length) : (ms.take (i + 1)).map g = (ms.take i).map g ++ [g (gr ms i)] := by
  rw [List.take_succ_eq_append_getElem h, List.map_append]
  simp [gr, List.getD, h]

end Go.Proofs.YtinbiahmipfibaaGreat

/- Contracts: coverings given, fibres; FibreOf, on both sides. -/
namespace Go.Proofs.YtinbiahmipfibaaGreat
open Go.Mem Go.RowKit
set_option linter.unusedVariables false
end Go.Proofs.YtinbiahmipfibaaGreat
