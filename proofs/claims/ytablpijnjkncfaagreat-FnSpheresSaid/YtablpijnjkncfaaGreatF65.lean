/- Small functions of the laws on rows; draws by l06Even. -/
import Derived.Test.YtablpijnjkncfaaGreatFI
import Derived.Test.YtablpijnjkncfaaGreatFJ
import Derived.Test.YtablpijnjkncfaaGreatPE
namespace Go.Mem
theorem rows_take {xss yss : List (List Int)} {i : Nat} (h1 : i < xss.length) (h2 : i < yss.length) (h : xss.take i = yss.take i) (e : gr xss i = gr yss i) : xss.take (i + 1) = yss.take (i + 1) := by
  rw [take_gr' h1, take_gr' h2, h, e]
theorem mem_gr_iff {xss : List (List Int)} {xs : List Int} : xs ∈ xss ↔ ∃ i : Nat, i < xss.length ∧ gr xss i = xs := ⟨mem_gr, fun ⟨i, hi, e⟩ => by rw [← e]; simp [gr, List.getD, hi]⟩
end Go.Mem
namespace Go.Proofs.YtablpijnjkncfaaGreat
open Go.Mem Go.RowKit
set_option linter.unusedVariables false
set_option linter.unusedSimpArgs false

set_option maxHeartbeats 8000000 in
set_option maxRecDepth 100000 in
theorem likeRows5_any (v : Value) (v2 : Value) (xss : List (List Int)) (yss : List (List Int)) (w : World) (hv : RL w v xss) (hv2 : RL w v2 yss) :
    Ret Tryz.prog 45 #[v, v2] w fun r w' => r = .bool (decide (xss = yss)) ∧ Below w.heap.size w w' := by
  have shv := hv.sv
  have shv2 := hv2.sv
  have hb := Below.refl w.heap.size w
  refine enter2 27 Tryz.func45 rfl Tryz.ntmps45 rfl (fun fr => ?_)
  have scap := shv.le
  have scap2 := shv2.le
  refine go ?_
  refine cond_dec rfl (fun hne => ?_) (fun hne => ?_)
  · refine go ?_
    exact end_one Tryz.results45 rfl ⟨by rw [decide_eq_false (fun e => hne (by rw [e]))], hb⟩
  refine go ?_
  have sbs1 := hb.size
  have hv_b1 := hv
  have hv2_b1 := hv2
  have hbB1 := Below.refl w.heap.size w
  refine w_loop (fun kk fr w' => ∃ (i : Nat), kk = xss.length - i ∧ i ≤ xss.length ∧ fr 0 = v ∧ fr 1 = v2 ∧ fr 5 = .int .i64 i ∧ (xss.take i = yss.take i) ∧ Below w.heap.size w w') (xss.length)
    ⟨0, rfl, Nat.zero_le _, rfl, rfl, rfl, by simp, hbB1⟩ ?_
  rintro kk fr w1 ⟨i, rfl, hi, f0, f1, f5, hs, hbB1⟩
  have sw1 := hbB1.size
  have hv := hv_b1.below hbB1
  have hv2 := hv2_b1.below hbB1
  refine know (t := 0) f0 ?_; refine know (t := 1) f1 ?_; refine know (t := 5) f5 ?_
  refine go ?_
  refine cond_dec rfl (fun hlt => ?_) (fun hge => ?_)
  · obtain ⟨u, hu, hcu⟩ := hv.row (j := (i : Int)) (by omega) (by omega)
    obtain ⟨u2, hu2, hcu2⟩ := hv2.row (j := (i : Int)) (by omega) (by omega)
    refine go ?_
    refine region_h mixed (fun w2 hc2 => ?_)
    have swr2 := hc2.size
    refine h_p 0 hc2 ?_
    refine h_p 1 hc2 ?_
    refine h_p 2 hc2 ?_
    refine h_p 3 hc2 ?_
    refine h_p 4 hc2 ?_
    refine h_p 5 hc2 ?_
    refine h_p 6 hc2 ?_
    refine h_p 7 hc2 ?_
    refine h_one 8 ?_
    refine s_call2 (wn rfl) rfl rfl rfl (likeInts_any _ _ _ _ _ (hu.below hc2) (hu2.below hc2)) ?_
    rintro _ w3 ⟨rfl, hb3⟩
    have hc3 := hc2.trans (hb3.mono hc2.size)
    refine w_nil ?_
    refine h_on ⟨hc3, ?_⟩
    refine h_p 9 hc3 ?_
    refine h_nil ?_
    have sw3 := hc3.size
    replace hv := hv.below hc3
    replace hv2 := hv2.below hc3
    replace hu := hu.below hc3
    replace hu2 := hu2.below hc3
    replace hcu := cell_below hcu hc3
    replace hcu2 := cell_below hcu2 hc3
    replace hbB1 := hbB1.trans (hc3.mono hbB1.size)
    by_cases he : gr xss i = gr yss i
    rotate_left
    · have hd : (!decide (gr xss i = gr yss i)) = true := by rw [decide_eq_false he]; rfl
      refine go ?_
      exact end_one Tryz.results45 rfl ⟨by rw [decide_eq_false (fun e => he (by rw [e]))], (hb.trans (hbB1.mono hb.size))⟩
    have hd : (!decide (gr xss i = gr yss i)) = false := by rw [decide_eq_true he]; rfl
    refine go ?_
    refine ⟨xss.length - (i + 1), by omega, i + 1, rfl, by omega, rfl, rfl, rfl, rows_take (by omega) (by omega) hs he, hbB1⟩
  obtain rfl : i = xss.length := by omega
  have he : xss = yss := by rw [List.take_length] at hs; rw [hs]; exact List.take_of_length_le (by omega)
  refine go ?_
  exact end_one Tryz.results45 rfl ⟨by rw [decide_eq_true he], (hb.trans (hbB1.mono hb.size))⟩

set_option maxHeartbeats 8000000 in
set_option maxRecDepth 100000 in
theorem hasRow5_any (v : Value) (v2 : Value) (xss : List (List Int)) (ys : List Int) (w : World) (hv : RL w v xss) (hv2 : IL w v2 ys) :
    Ret Tryz.prog 17 #[v, v2] w fun r w' => r = .bool (decide (ys ∈ xss)) ∧ Below w.heap.size w w' := by
  have shv := hv.sv
  have shv2 := hv2.sv
  have hb := Below.refl w.heap.size w
  refine enter2 18 Tryz.func17 rfl Tryz.ntmps17 rfl (fun fr => ?_)
  have scap := shv.le
  refine go ?_
  have sbs1 := hb.size
  have hv_b1 := hv
  have hv2_b1 := hv2
  have hbB1 := Below.refl w.heap.size w
  refine w_loop (fun kk fr w' => ∃ (i : Nat), kk = xss.length - i ∧ i ≤ xss.length ∧ fr 0 = v ∧ fr 1 = v2 ∧ fr 5 = .int .i64 i ∧ (∀ j : Nat, j < i → gr xss j ≠ ys) ∧ Below w.heap.size w w') (xss.length)
    ⟨0, rfl, Nat.zero_le _, rfl, rfl, rfl, fun j hj => by omega, hbB1⟩ ?_
  rintro kk fr w1 ⟨i, rfl, hi, f0, f1, f5, hno, hbB1⟩
  have sw1 := hbB1.size
  have hv := hv_b1.below hbB1
  have hv2 := hv2_b1.below hbB1
  refine know (t := 0) f0 ?_; refine know (t := 1) f1 ?_; refine know (t := 5) f5 ?_
  refine go ?_
  refine cond_dec rfl (fun hlt => ?_) (fun hge => ?_)
  · obtain ⟨u, hu, hcu⟩ := hv.row (j := (i : Int)) (by omega) (by omega)
    refine go ?_
    refine s_call2 (wn rfl) rfl rfl rfl (likeInts_any _ _ _ _ _ hu hv2) ?_
    rintro _ w2 ⟨rfl, hb2⟩
    have sw2 := hb2.size
    replace hv := hv.below hb2
    replace hv2 := hv2.below hb2
    replace hu := hu.below hb2
    replace hcu := cell_below hcu hb2
    replace hbB1 := hbB1.trans (hb2.mono hbB1.size)
    by_cases he : gr xss i = ys
    · have hd : decide (gr xss i = ys) = true := decide_eq_true he
      rw [hd]
      refine go ?_
      exact end_one Tryz.results17 rfl ⟨by rw [decide_eq_true (mem_gr_iff.2 ⟨i, by omega, he⟩)], (hb.trans (hbB1.mono hb.size))⟩
    have hd : decide (gr xss i = ys) = false := decide_eq_false he
    rw [hd]
    refine go ?_
    refine ⟨xss.length - (i + 1), by omega, i + 1, rfl, by omega, rfl, rfl, rfl, fun j hj => by by_cases hji : j = i; (subst hji; exact he); exact hno j (by omega), hbB1⟩
  obtain rfl : i = xss.length := by omega
  refine go ?_
  exact end_one Tryz.results17 rfl ⟨by rw [decide_eq_false (fun h => by obtain ⟨j, hj, e⟩ := mem_gr_iff.1 h; exact hno j hj e)], (hb.trans (hbB1.mono hb.size))⟩

end Go.Proofs.YtablpijnjkncfaaGreat
