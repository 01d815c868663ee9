/- Small functions of the laws on rows; draws by l06Even. -/
import Derived.Test.YtlodnhflfijomaaF61
import Derived.Test.YtlodnhflfijomaaF64
import Derived.Test.YtlodnhflfijomaaP29
namespace Go.Mem
theorem rows_take {xss yss : List (List Int)} {i : Nat} (h1 : i < xss.length) (h2 : i < yss.length) (h : xss.take i = yss.take i) (e : gr xss i = gr yss i) : xss.take (i + 1) = yss.take (i + 1) := by
  rw [take_gr' h1, take_gr' h2, h, e]
theorem mem_gr_iff {xss : List (List Int)} {xs : List Int} : xs ∈ xss ↔ ∃ i : Nat, i < xss.length ∧ gr xss i = xs := ⟨mem_gr, fun ⟨i, hi, e⟩ => by rw [← e]; simp [gr, List.getD, hi]⟩
end Go.Mem
namespace Go.Proofs.Ytlodnhflfijomaa
open Go.Mem Go.RowKit
set_option linter.unusedVariables false
set_option linter.unusedSimpArgs false

set_option maxHeartbeats 8000000 in
set_option maxRecDepth 100000 in
theorem likeRows5_any (v : Value) (v2 : Value) (xss : List (List Int)) (yss : List (List Int)) (w : World) (hv : RL w v xss) (hv2 : RL w v2 yss) :
    Ret Try.prog 38 #[v, v2] w fun r w' => r = .bool (decide (xss = yss)) ∧ Below w.heap.size w w' := by
  have shv := hv.sv
  have shv2 := hv2.sv
  have hb := Below.refl w.heap.size w
  refine enter2 27 Try.func38 rfl Try.ntmps38 rfl (fun fr => ?_)
  have scap := shv.le
  have scap2 := shv2.le
  refine go ?_
  refine cond_dec rfl (fun hne => ?_) (fun hne => ?_)
  · refine go ?_
    exact end_one Try.results38 rfl ⟨by rw [decide_eq_false (fun e => hne (by rw [e]))], hb⟩
  refine go ?_
  have sbs1 := hb.size
  have hv_b1 := hv
  have hv2_b1 := hv2
  have hbB1 := Below.refl w.heap.size w
  refine w_loop (fun kk fr w' => ∃ (i : Nat), kk = xss.length - i ∧ i ≤ xss.length ∧ fr 0 = v ∧ fr 1 = v2 ∧ fr 5 = .int .i64 i ∧ (xss.take i = yss.take i) ∧ Below w.heap.size w w') (xss.length)
    ⟨0, rfl, Nat.zero_le _, rfl, rfl, rfl, by simp, hbB1⟩ ?_
  rintro kk fr w1 ⟨i, rfl, hi, f0, f1, f5, hs, hbB1⟩
  have sw1 := hbB1.size
  have hv := hv_b1.below hbB1
  have hv2 := hv2_b1.below hbB1
  refine know (t := 0) f0 ?_; refine know (t := 1) f1 ?_; refine know (t := 5) f5 ?_
  refine go ?_
  refine cond_dec rfl (fun hlt => ?_) (fun hge => ?_)
  · obtain ⟨u, hu, hcu⟩ := hv.row (j := (i : Int)) (by omega) (by omega)
    obtain ⟨u2, hu2, hcu2⟩ := hv2.row (j := (i : Int)) (by omega) (by omega)
    refine go ?_
    refine region_h mixed (fun w2 hc2 => ?_)
    have swr2 := hc2.size
    refine h_p 0 hc2 ?_
    refine h_p 1 hc2 ?_
    refine h_p 2 hc2 ?_
    refine h_p 3 hc2 ?_
    refine h_p 4 hc2 ?_
    refine h_p 5 hc2 ?_
    refine h_p 6 hc2 ?_
    refine h_p 7 hc2 ?_
    refine h_one 8 ?_
    refine s_call2 (wn rfl) rfl rfl rfl (likeInts_any _ _ _ _ _ (hu.below hc2) (hu2.below hc2)) ?_
    rintro _ w3 ⟨rfl, hb3⟩
    have hc3 := hc2.trans (hb3.mono hc2.size)
    refine w_nil ?_
    refine h_on ⟨hc3, ?_⟩
    refine h_p 9 hc3 ?_
    refine h_nil ?_
    have sw3 := hc3.size
    replace hv := hv.below hc3
    replace hv2 := hv2.below hc3
    replace hu := hu.below hc3
    replace hu2 := hu2.below hc3
    replace hcu := cell_below hcu hc3
    replace hcu2 := cell_below hcu2 hc3
    replace hbB1 := hbB1.trans (hc3.mono hbB1.size)
    by_cases he : gr xss i = gr yss i
    rotate_left
    · have hd : (!decide (gr xss i = gr yss i)) = true := by rw [decide_eq_false he]; rfl
      refine go ?_
      exact end_one Try.results38 rfl ⟨by rw [decide_eq_false (fun e => he (by rw [e]))], (hb.trans (hbB1.mono hb.size))⟩
    have hd : (!decide (gr xss i = gr yss i)) = false := by rw [decide_eq_true he]; rfl
    refine go ?_
    refine ⟨xss.length - (i + 1), by omega, i + 1, rfl, by omega, rfl, rfl, rfl, rows_take (by omega) (by omega) hs he, hbB1⟩
  obtain rfl : i = xss.length := by omega
  have he : xss = yss := by rw [List.take_length] at hs; rw [hs]; exact List.take_of_length_le (by omega)
  refine go ?_
  exact end_one Try.results38 rfl ⟨by rw [decide_eq_true he], (hb.trans (hbB1.mono hb.size))⟩

set_option maxHeartbeats 8000000 in
set_option maxRecDepth 100000 in
theorem hasRow5_any (v : Value) (v2 : Value) (xss : List (List Int)) (ys : List Int) (w : World) (hv : RL w v xss) (hv2 : IL w v2 ys) :
    Ret Try.prog 43 #[v, v2] w fun r w' => r = .bool (decide (ys ∈ xss)) ∧ Below w.heap.size w w' := by
  have shv := hv.sv
  have shv2 := hv2.sv
  have hb := Below.refl w.heap.size w
  refine enter2 18 Try.func43 rfl Try.ntmps43 rfl (fun fr => ?_)
  have scap := shv.le
  refine go ?_
  have sbs1 := hb.size
  have hv_b1 := hv
  have hv2_b1 := hv2
  have hbB1 := Below.refl w.heap.size w
  refine w_loop (fun kk fr w' => ∃ (i : Nat), kk = xss.length - i ∧ i ≤ xss.length ∧ fr 0 = v ∧ fr 1 = v2 ∧ fr 5 = .int .i64 i ∧ (∀ j : Nat, j < i → gr xss j ≠ ys) ∧ Below w.heap.size w w') (xss.length)
    ⟨0, rfl, Nat.zero_le _, rfl, rfl, rfl, fun j hj => by omega, hbB1⟩ ?_
  rintro kk fr w1 ⟨i, rfl, hi, f0, f1, f5, hno, hbB1⟩
  have sw1 := hbB1.size
  have hv := hv_b1.below hbB1
  have hv2 := hv2_b1.below hbB1
  refine know (t := 0) f0 ?_; refine know (t := 1) f1 ?_; refine know (t := 5) f5 ?_
  refine go ?_
  refine cond_dec rfl (fun hlt => ?_) (fun hge => ?_)
  · obtain ⟨u, hu, hcu⟩ := hv.row (j := (i : Int)) (by omega) (by omega)
    refine go ?_
    refine s_call2 (wn rfl) rfl rfl rfl (likeInts_any _ _ _ _ _ hu hv2) ?_
    rintro _ w2 ⟨rfl, hb2⟩
    have sw2 := hb2.size
    replace hv := hv.below hb2
    replace hv2 := hv2.below hb2
    replace hu := hu.below hb2
    replace hcu := cell_below hcu hb2
    replace hbB1 := hbB1.trans (hb2.mono hbB1.size)
    by_cases he : gr xss i = ys
    · have hd : decide (gr xss i = ys) = true := decide_eq_true he
      rw [hd]
      refine go ?_
      exact end_one Try.results43 rfl ⟨by rw [decide_eq_true (mem_gr_iff.2 ⟨i, by omega, he⟩)], (hb.trans (hbB1.mono hb.size))⟩
    have hd : decide (gr xss i = ys) = false := decide_eq_false he
    rw [hd]
    refine go ?_
    refine ⟨xss.length - (i + 1), by omega, i + 1, rfl, by omega, rfl, rfl, rfl, fun j hj => by by_cases hji : j = i; (subst hji; exact he); exact hno j (by omega), hbB1⟩
  obtain rfl : i = xss.length := by omega
  refine go ?_
  exact end_one Try.results43 rfl ⟨by rw [decide_eq_false (fun h => by obtain ⟨j, hj, e⟩ := mem_gr_iff.1 h; exact hno j hj e)], (hb.trans (hbB1.mono hb.size))⟩

set_option maxHeartbeats 8000000 in
set_option maxRecDepth 100000 in
theorem then5_any (v : Value) (v2 : Value) (ps : List Int) (qs : List Int) (w : World) (hv : IL w v ps) (hv2 : IL w v2 qs) (hr : ∀ x ∈ ps, 0 ≤ x ∧ x < qs.length) (hl : ps.length ≤ 1000000) :
    Ret Try.prog 44 #[v, v2] w fun r w' => OI w' w.heap.size 2 r (aft ps qs) ∧ Below w.heap.size w w' := by
  have shv := hv.sv
  have shv2 := hv2.sv
  have hb := Below.refl w.heap.size w
  refine enter2 25 Try.func44 rfl Try.ntmps44 rfl (fun fr => ?_)
  refine go ?_
  have sbs1 := hb.size
  have hv_b1 := hv
  have hv2_b1 := hv2
  have hbB1 := Below.refl w.heap.size w
  refine go ?_
  have szq1 := hbB1.size
  refine s_build0 (B := w.heap.size) (wn rfl) rfl szq1 (fun ob w1 ho so hg1 _ => ?_)
  have hb1 := below_of_grownBy hg1
  have sw1 := hb1.size
  replace hv := hv.below hb1
  replace hv2 := hv2.below hb1
  replace hbB1 := hbB1.trans (hb1.mono hbB1.size)
  refine go ?_
  refine w_loop (fun kk fr w' => ∃ (i : Nat) (ob : Value), kk = ps.length - i ∧ i ≤ ps.length ∧ fr 0 = v ∧ fr 1 = v2 ∧ fr 5 = ob ∧ fr 6 = .int .i64 i ∧ (OI w' w.heap.size 2 ob ((ps.take i).map (gi qs))) ∧ Below w.heap.size w w') (ps.length)
    ⟨0, ob, rfl, Nat.zero_le _, rfl, rfl, rfl, rfl, ho, hbB1⟩ ?_
  rintro kk fr w2 ⟨i, ob, rfl, hi, f0, f1, f5, f6, ho, hbB1⟩
  have sw2 := hbB1.size
  have hv := hv_b1.below hbB1
  have hv2 := hv2_b1.below hbB1
  have sho := ho.sv
  refine know (t := 0) f0 ?_; refine know (t := 1) f1 ?_; refine know (t := 5) f5 ?_; refine know (t := 6) f6 ?_
  refine go ?_
  refine cond_dec rfl (fun hlt => ?_) (fun hge => ?_)
  · have hx := hr _ (gi_in (xs := ps) (j := i) (by omega))
    refine go ?_
    have szq3 := hbB1.size
    refine s_build1 (B := w.heap.size) (wn rfl) rfl rfl szq3 (fun tb w3 ht st hg3 _ => ?_)
    have hb3 := below_of_grownBy hg3
    have sw3 := hb3.size
    replace hv := hv.below hb3
    replace hv2 := hv2.below hb3
    replace ho := ho.below hb3
    replace hbB1 := hbB1.trans (hb3.mono hbB1.size)
    have szq4 := hbB1.size
    refine s_appendI (wn rfl) rfl rfl rfl ho ht.il (by simp; omega) szq4 (fun ob' w4 hoN so hgN _ => ?_)
    replace hbB1 := hbB1.trans (ho.below_of hgN szq4)
    have sw4 := hgN.size
    replace ho := hoN
    clear hoN
    replace hv := hv_b1.below hbB1
    replace hv2 := hv2_b1.below hbB1
    refine go ?_
    refine ⟨ps.length - (i + 1), by omega, i + 1, ob', rfl, by omega, rfl, rfl, rfl, rfl, by rw [take_gi (by omega), List.map_append]; exact ho, hbB1⟩
  obtain rfl : i = ps.length := by omega
  rw [List.take_length] at ho
  refine go ?_
  exact end_one Try.results44 rfl ⟨ho, (hb.trans (hbB1.mono hb.size))⟩

set_option maxHeartbeats 8000000 in
set_option maxRecDepth 100000 in
theorem DrawAutomorphismsOf_any (c : Value) (bs : List Int) (w : World) (hcl : CL w c bs) :
    Ret Try.prog 35 #[c] w fun r w' => ∃ x xss, r = .agg #[x] ∧ RL w' x xss ∧ Below w.heap.size w w' := by
  have sc := hcl.sv
  refine enter1 6 Try.func35 rfl Try.ntmps35 rfl (fun fr => ?_)
  refine go2 ?_
  refine s_alloc (B := w.heap.size) (wn rfl) rfl (Nat.le_refl _) (fun w1 p4 hx4 hg1 hp4 => ?_)
  have hb1 := below_of_grownBy hg1
  have z1 := hb1.size
  refine go2 ?_
  refine s_call1 (wn rfl) rfl rfl (l01From_any c bs _ (hcl.below hb1)) ?_
  rintro _ w2 ⟨q, rfl, hs, hb2⟩
  have z2 := hb2.size
  have hql := hs.lt
  have hq1 := hs.low
  refine go2 ?_
  refine s_call1 (wn rfl) rfl rfl (l06Even_any q _ c bs _ hs) ?_
  rintro _ w3 ⟨x, xss, rfl, hm, _, _, hs3, hg3⟩
  have z3 := hg3.size
  have hx4' := (hx4.below hb2).kept hg3 (by intro e; have := Option.some.inj e; have := hx4.lt; omega)
  have hb3 : Below w.heap.size w w3 := (hb1.trans (hb2.mono z1)).trans (gr_below hg3 (by omega) (by omega))
  refine go2 ?_
  refine s_storeBox (wn rfl) rfl rfl hm.sv.one hx4' (fun w4 hxz hgz => ?_)
  have hmz := hm.box hx4' (by decide) (by decide) hgz
  have hbz := hb3.trans (hx4'.below_of hgz hb3.size)
  refine go2 ?_
  exact end_cell Try.results35 rfl hxz.cell ⟨x, xss, rfl, hmz.rl, hbz⟩

end Go.Proofs.Ytlodnhflfijomaa
