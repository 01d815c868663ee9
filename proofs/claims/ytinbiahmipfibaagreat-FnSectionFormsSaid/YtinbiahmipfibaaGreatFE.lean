/- Texts laid together: F20 F21. -/
import Derived.Test.YtinbiahmipfibaaGreatFD
import Derived.Test.YtinbiahmipfibaaGreatPB
import Derived.Test.YtinbiahmipfibaaGreatWB
/- Contracts: lists compared; IsCovering, on both sides. -/
namespace Go.Proofs.YtinbiahmipfibaaGreat
open Go.Mem Go.RowKit
set_option linter.unusedVariables false


theorem l01Same_any (v v2 : Value) (xs ys : List Int) (w : World) (hv : IL w v xs) (hv2 : IL w v2 ys) :
    Ret Tryz.prog 96 #[v, v2] w fun r w' => r = .bool (decide (xs = ys)) ∧ Below w.heap.size w w' := by
  have sv := hv.sv
  have sv2 := hv2.sv
  have hm := sv.le
  refine enter2 26 Tryz.func96 rfl Tryz.ntmps96 rfl (fun fr => ?_)
  refine go ?_
  refine cond_dec rfl (fun h => ?_) (fun hl => ?_)
  · refine go ?_
    exact end_one Tryz.results96 rfl ⟨by rw [decide_eq_false (fun e => h (by rw [e]))], Below.refl _ _⟩
  refine go ?_
  refine w_loop (fun k fr w' => ∃ (i : Nat), k = xs.length - i ∧ i ≤ xs.length ∧ fr 0 = v ∧ fr 1 = v2 ∧ fr 5 = .int .i64 i ∧ (∀ j : Int, 0 ≤ j → j < i → gi xs j = gi ys j) ∧ Below w.heap.size w w') xs.length
    ⟨0, rfl, Nat.zero_le _, rfl, rfl, rfl, fun j h0 h1 => by omega, Below.refl _ _⟩ ?_
  rintro k fr w2 ⟨i, rfl, hi, f0, f1, fs, hys, hb⟩
  have hv := hv.below hb
  have hv2 := hv2.below hb
  refine know (t := 0) f0 ?_; refine know (t := 1) f1 ?_; refine know (t := 5) fs ?_
  refine go ?_
  refine cond_dec rfl (fun hlt => ?_) (fun hge => ?_)
  · refine go ?_
    refine region_q mixed (by kernel_rfl) ?_
    refine qo ?_
    refine q_nil ?_
    intro w3 hb3
    have hb := hb.trans (hb3.mono hb.size)
    refine go ?_
    refine cond_dec rfl (fun hne => ?_) (fun hne => ?_)
    · refine go ?_
      exact end_one Tryz.results96 rfl ⟨by rw [decide_eq_false (fun e => hne (by rw [e]))], hb⟩
    · refine go ?_
      refine ⟨xs.length - (i + 1), by omega, i + 1, rfl, by omega, rfl, rfl, rfl, fun j h0 hj => ?_, hb⟩
      by_cases hji : j = i
      · subst hji; exact Decidable.not_not.1 hne
      · exact hys j h0 (by omega)
  · obtain rfl : i = xs.length := by omega
    refine go ?_
    have : xs = ys := list_ext_gi (by omega) fun j h0 hj => hys j h0 (by omega)
    exact end_one Tryz.results96 rfl ⟨by rw [decide_eq_true this], hb⟩

theorem Equal_any (v v2 : Value) (xs ys : List Int) (w : World) (hv : IL w v xs) (hv2 : IL w v2 ys) :
    Ret Tryz.prog 75 #[v, v2] w fun r w' => r = .bool (decide (xs = ys)) ∧ Below w.heap.size w w' := by
  have sv := hv.sv
  have sv2 := hv2.sv
  have hm := sv.le
  refine enter2 26 Tryz.func75 rfl Tryz.ntmps75 rfl (fun fr => ?_)
  refine go ?_
  refine cond_dec rfl (fun h => ?_) (fun hl => ?_)
  · refine go ?_
    exact end_one Tryz.results75 rfl ⟨by rw [decide_eq_false (fun e => h (by rw [e]))], Below.refl _ _⟩
  refine go ?_
  refine w_loop (fun k fr w' => ∃ (i : Nat), k = xs.length - i ∧ i ≤ xs.length ∧ fr 0 = v ∧ fr 1 = v2 ∧ fr 12 = .int .i64 xs.length ∧ fr 13 = .int .i64 i ∧ (∀ j : Int, 0 ≤ j → j < i → gi xs j = gi ys j) ∧ Below w.heap.size w w') xs.length
    ⟨0, rfl, Nat.zero_le _, rfl, rfl, rfl, rfl, fun j h0 h1 => by omega, Below.refl _ _⟩ ?_
  rintro k fr w2 ⟨i, rfl, hi, f0, f1, f12, fs, hys, hb⟩
  have hv := hv.below hb
  have hv2 := hv2.below hb
  refine know (t := 0) f0 ?_; refine know (t := 1) f1 ?_; refine know (t := 12) f12 ?_; refine know (t := 13) fs ?_
  refine go ?_
  refine cond_dec rfl (fun hlt => ?_) (fun hge => ?_)
  · refine go ?_
    refine region_q mixed (by kernel_rfl) ?_
    refine qo ?_
    refine q_nil ?_
    intro w3 hb3
    have hb := hb.trans (hb3.mono hb.size)
    refine go ?_
    refine cond_dec rfl (fun hne => ?_) (fun hne => ?_)
    · refine go ?_
      exact end_one Tryz.results75 rfl ⟨by rw [decide_eq_false (fun e => hne (by rw [e]))], hb⟩
    · refine go ?_
      refine ⟨xs.length - (i + 1), by omega, i + 1, rfl, by omega, rfl, rfl, rfl, rfl, fun j h0 hj => ?_, hb⟩
      by_cases hji : j = i
      · subst hji; exact Decidable.not_not.1 hne
      · exact hys j h0 (by omega)
  · obtain rfl : i = xs.length := by omega
    refine go ?_
    have : xs = ys := list_ext_gi (by omega) fun j h0 hj => hys j h0 (by omega)
    exact end_one Tryz.results75 rfl ⟨by rw [decide_eq_true this], hb⟩

end Go.Proofs.YtinbiahmipfibaaGreat

/- Contracts: words, and what they do; DoesNothing, on both sides. -/
namespace Go.Proofs.YtinbiahmipfibaaGreat
open Go.Mem Go.RowKit
set_option linter.unusedVariables false
end Go.Proofs.YtinbiahmipfibaaGreat
