/- Contracts: small functions of the laws. -/
import Derived.Test.YtlodnhflfijomaaF50
namespace Go.Proofs.Ytlodnhflfijomaa
open Go.Mem Go.RowKit
set_option linter.unusedVariables false
set_option linter.unusedSimpArgs false
theorem big_any (c : Value) (bs : List Int) (w : World) (hc : CL w c bs) :
    Ret Try.prog 25 #[c] w fun r w' => r = .bool (decide ((4096 : Int) < bs.length)) ∧ w = w' := by
  have sc := hc.sv
  refine enter1 6 Try.func25 rfl Try.ntmps25 rfl (fun fr => ?_)
  refine go2 ?_
  exact end_one Try.results25 rfl ⟨rfl, rfl⟩

set_option maxHeartbeats 8000000 in
set_option maxRecDepth 100000 in
theorem likeInts_any (v : Value) (v2 : Value) (xs : List Int) (ys : List Int) (w : World) (hv : IL w v xs) (hv2 : IL w v2 ys) :
    Ret Try.prog 29 #[v, v2] w fun r w' => r = .bool (decide (xs = ys)) ∧ Below w.heap.size w w' := by
  have shv := hv.sv
  have shv2 := hv2.sv
  have hb := Below.refl w.heap.size w
  refine enter2 26 Try.func29 rfl Try.ntmps29 rfl (fun fr => ?_)
  have sle := shv.le
  by_cases hl : xs.length = ys.length
  rotate_left
  · have hl' : (xs.length : Int) ≠ ys.length := by omega
    refine go ?_
    exact end_one Try.results29 rfl ⟨by rw [decide_eq_false (fun e => hl (by rw [e]))], hb⟩
  have hl' : ¬ ((xs.length : Int) ≠ ys.length) := by omega
  refine go ?_
  have sbs1 := hb.size
  have hv_b1 := hv
  have hv2_b1 := hv2
  have hbB1 := Below.refl w.heap.size w
  refine w_loop (fun kk fr w' => ∃ (i : Nat), kk = xs.length - i ∧ i ≤ xs.length ∧ fr 0 = v ∧ fr 1 = v2 ∧ fr 5 = .int .i64 i ∧ (∀ j : Nat, j < i → gi xs j = gi ys j) ∧ Below w.heap.size w w') (xs.length)
    ⟨0, rfl, Nat.zero_le _, rfl, rfl, rfl, fun j hj => by omega, hbB1⟩ ?_
  rintro kk fr w1 ⟨i, rfl, hi, f0, f1, f5, hall, hbB1⟩
  have sw1 := hbB1.size
  have hv := hv_b1.below hbB1
  have hv2 := hv2_b1.below hbB1
  refine know (t := 0) f0 ?_; refine know (t := 1) f1 ?_; refine know (t := 5) f5 ?_
  refine go ?_
  refine cond_dec rfl (fun hlt => ?_) (fun hge => ?_)
  · refine go ?_
    refine region_q mixed (by kernel_rfl) ?_; refine qo ?_; refine q_nil ?_
    intro wq hbq
    have sw1 := hbq.size
    replace hv := hv.below hbq
    replace hv2 := hv2.below hbq
    replace hbB1 := hbB1.trans (hbq.mono hbB1.size)
    by_cases hne : gi xs i ≠ gi ys i
    · refine go ?_
      exact end_one Try.results29 rfl ⟨by rw [decide_eq_false (fun e => hne (by rw [e]))], (hb.trans (hbB1.mono hb.size))⟩
    refine go ?_
    refine ⟨xs.length - (i + 1), by omega, i + 1, rfl, by omega, rfl, rfl, rfl, fun j hj => by by_cases hji : j = i; (subst hji; exact Decidable.not_not.1 hne); exact hall j (by omega), hbB1⟩
  obtain rfl : i = xs.length := by omega
  refine go ?_
  exact end_one Try.results29 rfl ⟨by rw [decide_eq_true (list_ext_gi hl fun x h0 hx => by have := hall x.toNat (by omega); rw [show ((x.toNat : Nat) : Int) = x by omega] at this; exact this)], (hb.trans (hbB1.mono hb.size))⟩

end Go.Proofs.Ytlodnhflfijomaa
