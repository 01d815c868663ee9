/- Texts laid together: F18 F19. -/
import Derived.Test.YtlodnhflfijomaaFC
import Derived.Test.YtlodnhflfijomaaPB
/- Contracts: numbers of orbits, on both sides; FlagOrbits, IsRegular, IsChiral. -/
namespace Go.Proofs.Ytlodnhflfijomaa
open Go.Mem Go.RowKit
set_option linter.unusedVariables false

set_option maxHeartbeats 4000000 in
set_option maxRecDepth 100000 in
theorem l01Orbits_any (v : Value) (xss : List (List Int)) (n : Nat) (w : World) (hv : RL w v xss) (hs : Sym n xss) (hN : n ≤ 1000) (hM : xss.length ≤ 1000) :
    Ret Try.prog 139 #[.int .i64 n, v] w fun r w' => OI w' w.heap.size 2 r (labs n xss) ∧ Below w.heap.size w w' := by
  have sv := hv.sv
  refine enter2 49 Try.func139 rfl Try.ntmps139 rfl (fun fr => ?_)
  refine go ?_
  refine s_build0 (B := w.heap.size) (wn rfl) rfl (Nat.le_refl _) (fun ob w1 ho so hg1 _ => ?_)
  have hb1 := below_of_grownBy hg1
  refine go ?_
  refine w_loop (fun k fr w' => ∃ (i : Nat) (ob : Value), k = n - i ∧ i ≤ n ∧ fr 0 = .int .i64 n ∧ fr 1 = v ∧ fr 5 = ob ∧ fr 6 = .int .i64 i ∧
      OI w' w.heap.size 2 ob (List.replicate i (-1)) ∧ Below w.heap.size w w') n
    ⟨0, ob, rfl, Nat.zero_le _, rfl, rfl, rfl, rfl, ho, hb1⟩ ?_
  rintro k fr w2 ⟨i, ob, rfl, hi, f0, f1, f5, f6, ho, hb⟩
  have so := ho.sv
  refine know (t := 0) f0 ?_; refine know (t := 1) f1 ?_; refine know (t := 5) f5 ?_; refine know (t := 6) f6 ?_
  refine go ?_
  refine cond_dec rfl (fun hlt => ?_) (fun hge => ?_)
  · refine go ?_
    refine s_build1 (B := w.heap.size) (wn rfl) rfl rfl hb.size (fun tb w3 ht st hg3 _ => ?_)
    have hb3 := below_of_grownBy hg3
    have ho3 := ho.below hb3
    have hb3 := hb.trans (hb3.mono hb.size)
    have h3 := hb3.size
    refine go ?_
    refine s_appendI (wn rfl) rfl rfl rfl ho3 ht.il (by simp; omega) (by omega) (fun ob' w4 ho4 so4 hg4 _ => ?_)
    have hb4 := hb3.trans (ho3.below_of hg4 hb3.size)
    refine go ?_
    exact ⟨n - (i + 1), by omega, i + 1, ob', rfl, by omega, rfl, rfl, rfl, rfl, by rw [List.replicate_succ']; exact ho4, hb4⟩
  obtain rfl : i = n := by omega
  refine go ?_
  refine w_loop (fun k fr w' => ∃ (j : Nat), k = i - j ∧ j ≤ i ∧ fr 0 = .int .i64 i ∧ fr 1 = v ∧ fr 5 = ob ∧ fr 7 = .int .i64 (labsFrom i xss j).2 ∧ fr 8 = .int .i64 j ∧
      OI w' w.heap.size 2 ob (labsFrom i xss j).1 ∧ Below w.heap.size w w') i
    ⟨0, rfl, Nat.zero_le _, rfl, rfl, rfl, rfl, rfl, by simpa [labsFrom] using ho, hb⟩ ?_
  rintro k fr w3 ⟨j, rfl, hj, f0, f1, f5, f7, f8, ho, hb⟩
  have hL := labs_inv hs hN j hj
  have so := ho.sv
  have hll := hL.len
  have hc0 := hL.c0
  refine know (t := 0) f0 ?_; refine know (t := 1) f1 ?_; refine know (t := 5) f5 ?_; refine know (t := 7) f7 ?_; refine know (t := 8) f8 ?_
  refine go ?_
  refine cond_dec rfl (fun hlt => ?_) (fun hge => ?_)
  · refine go ?_
    refine cond_dec rfl (fun hold => ?_) (fun hnew => ?_)
    · refine go ?_
      have e : labsFrom i xss (j + 1) = labsFrom i xss j := by
        show (if _ then _ else _) = _
        rw [if_neg (by omega)]
      exact ⟨i - (j + 1), by omega, j + 1, rfl, by omega, rfl, rfl, rfl, by rw [e]; rfl, rfl, by rw [e]; exact ho, hb⟩
    · have hneg : gi (labsFrom i xss j).1 j < 0 := by omega
      have e : labsFrom i xss (j + 1) = (lab1 xss (labsFrom i xss j).1 (labsFrom i xss j).2 j, (labsFrom i xss j).2 + 1) := by
        show (if _ then _ else _) = _
        rw [if_pos hneg]
      have hip : 0 ≤ (j : Int) ∧ (j : Int) < i := by omega
      have ho' : ∀ x ∈ orbit xss j, 0 ≤ x ∧ x < i := fun x hx => ((mem_orbit hs.syst hip hN).1 hx).rng hs.syst hip
      have hol := orbit_le hs.syst hip hN
      rw [← setAll_orbit (L := (labsFrom i xss j).1) hs.syst hip hN hll] at e
      generalize (labsFrom i xss j).1 = L at *
      generalize (labsFrom i xss j).2 = c at *
      refine go ?_
      refine s_call2 (wn rfl) rfl rfl rfl (l01Orbit_any _ _ _ _ _ (hv.below hb) hs.syst hip hN hM) ?_
      rintro rb w4 ⟨hr, hb4⟩
      have ho4 := ho.below hb4
      have hb4 := hb.trans (hb4.mono hb.size)
      have hlow : ∀ g, ob.ownBlock = some g → g < w3.heap.size := fun g hg => (ho.lt g hg).2
      generalize orbit xss j = O at *
      refine go ?_
      refine w_loop (fun k fr w' => ∃ (q : Nat), k = O.length - q ∧ q ≤ O.length ∧ fr 0 = .int .i64 i ∧ fr 1 = v ∧ fr 5 = ob ∧ fr 7 = .int .i64 c ∧ fr 8 = .int .i64 j ∧ fr 9 = rb ∧ fr 10 = .int .i64 q ∧
          OI w' w.heap.size 2 ob (setAll L c (O.take q)) ∧ OI w' w3.heap.size 2 rb O ∧ Below w.heap.size w w') O.length
        ⟨0, rfl, Nat.zero_le _, rfl, rfl, rfl, rfl, rfl, rfl, rfl, by simpa [setAll] using ho4, hr, hb4⟩ ?_
      rintro k fr w5 ⟨q, rfl, hq, f0, f1, f5, f7, f8, f9, f10, ho, hr, hb⟩
      have so := ho.sv
      have sr := hr.sv
      have hsl := length_setAll c (O.take q) L
      refine know (t := 0) f0 ?_; refine know (t := 1) f1 ?_; refine know (t := 5) f5 ?_; refine know (t := 7) f7 ?_; refine know (t := 8) f8 ?_; refine know (t := 9) f9 ?_; refine know (t := 10) f10 ?_
      refine go ?_
      refine cond_dec rfl (fun hlt2 => ?_) (fun hge2 => ?_)
      · have hx := ho' _ (gi_in (xs := O) (j := q) (by omega))
        refine go ?_
        refine s_storeI (wn rfl) rfl rfl ho (by omega) (by omega) (fun w6 ho6 hg6 => ?_)
        have hr6 := hr.kept hg6 (hr.apart_high hlow)
        have hb6 := hb.trans (ho.below_of hg6 hb.size)
        refine go ?_
        exact ⟨O.length - (q + 1), by omega, q + 1, rfl, by omega, rfl, rfl, rfl, rfl, rfl, rfl, rfl, by rw [setAll_take_succ (by omega)]; exact ho6, hr6, hb6⟩
      · obtain rfl : q = O.length := by omega
        rw [List.take_length] at ho
        refine go ?_
        exact ⟨i - (j + 1), by omega, j + 1, rfl, by omega, rfl, rfl, rfl, by rw [e]; rfl, rfl, by rw [e]; exact ho, hb⟩
  · obtain rfl : j = i := by omega
    refine go ?_
    exact end_one Try.results139 rfl ⟨ho, hb⟩

theorem l02Greatest_any (v : Value) (xs : List Int) (w : World) (hv : IL w v xs) (hx : ∀ x ∈ xs, x < 1000000000000) :
    Ret Try.prog 117 #[v] w fun r w' => r = .int .i64 (gre xs) ∧ w = w' := by
  have sv := hv.sv
  have hcap := sv.le
  refine enter1 23 Try.func117 rfl Try.ntmps117 rfl (fun fr => ?_)
  refine go ?_
  refine w_loop (fun k fr w' => ∃ (i : Nat), k = xs.length - i ∧ i ≤ xs.length ∧ fr 0 = v ∧ fr 3 = .int .i64 (gre (xs.take i)) ∧ fr 4 = .int .i64 i ∧ w = w') xs.length
    ⟨0, rfl, Nat.zero_le _, rfl, by simp [gre]; rfl, rfl, rfl⟩ ?_
  rintro k fr _ ⟨i, rfl, hi, f0, f3, f4, rfl⟩
  refine know (t := 0) f0 ?_; refine know (t := 3) f3 ?_; refine know (t := 4) f4 ?_
  refine go ?_
  refine cond_dec rfl (fun hlt => ?_) (fun hge => ?_)
  · have hy := hx _ (gi_in (xs := xs) (j := i) (by omega))
    have hg := gre_take_succ (xs := xs) (k := i) (by omega)
    have hgl := gre_le (xs := xs.take i) (c := 1000000000000) (by omega) (fun x h => hx x (List.mem_of_mem_take h))
    refine go ?_
    refine cond_dec rfl (fun h => ?_) (fun h => ?_)
    · rw [if_pos h] at hg
      refine go ?_
      exact ⟨xs.length - (i + 1), by omega, i + 1, rfl, by omega, rfl, by rw [hg]; rfl, rfl, rfl⟩
    · rw [if_neg h] at hg
      refine go ?_
      exact ⟨xs.length - (i + 1), by omega, i + 1, rfl, by omega, rfl, by rw [hg]; rfl, rfl, rfl⟩
  · obtain rfl : i = xs.length := by omega
    rw [List.take_length]
    refine go ?_
    exact end_one Try.results117 rfl ⟨rfl, rfl⟩
end Go.Proofs.Ytlodnhflfijomaa

/- Contracts: the orbits of flags; FlagOrbits, IsRegular, IsChiral, on both sides. -/
namespace Go.Proofs.Ytlodnhflfijomaa
open Go.Mem Go.RowKit
set_option linter.unusedVariables false


set_option maxRecDepth 100000 in
theorem l06Orbits_any (v : Value) (ms : List (List Int)) (w : World) (hv : RL w v ms) (hm : IsMan ms) :
    Ret Try.prog 116 #[.agg #[v]] w fun r w' => OI w' w.heap.size 2 r (labs (nf ms) (auts ms)) ∧ Below w.heap.size w w' := by
  have shv := hv.sv
  have hb := Below.refl w.heap.size w
  refine enter1 8 Try.func116 rfl Try.ntmps116 rfl (fun fr => ?_)
  have h1 := hm.m0.r1
  have h4 := hm.m0.f400
  have ha := auts_le hm
  refine go ?_
  refine s_box (wn rfl) rfl rfl (agg_cells shv) (fun w1 hbx _ hp hg => ?_)
  have hb1 := below_of_grownBy hg
  replace hv := hv.below hb1
  replace hb := hb.trans (hb1.mono hb.size)
  clear hg hp hb1
  generalize (⟨w.heap.size, 0, none⟩ : Addr) = p at *
  have hs0 := hb.size
  refine go ?_
  refine region_h mixed (fun w2 hc2 => ?_)
  refine h_p 0 hc2 ?_
  refine h_p 2 hc2 ?_
  refine h_one 1 ?_
  refine s_call1 (wn rfl) rfl rfl (l02Flags_any _ _ _ (hv.below hc2) h1) ?_
  rintro _ w3 ⟨rfl, hb3⟩
  have hc3 := hc2.trans (hb3.mono hc2.size)
  refine w_nil ?_
  refine h_on ⟨hc3, ?_⟩
  refine h_one 3 ?_
  refine s_call1 (wn rfl) rfl rfl (l06All_any _ _ _ (hv.below hc3) hm) ?_
  rintro x w4 ⟨hx, hb4⟩
  have hc4 := hc3.trans (hb4.mono hc3.size)
  refine w_nil ?_
  refine h_on ⟨hc4, ?_⟩
  refine h_one 4 ?_
  refine s_call2 (wn rfl) rfl rfl rfl (l01Orbits_any _ _ _ _ hx.rl (auts_sym hm) (by omega) (by unfold auts at ha; omega)) ?_
  rintro y w5 ⟨hy, hb5⟩
  have hc5 := hc4.trans (hb5.mono hc4.size)
  replace hx := hx.below hb5
  refine w_nil ?_
  refine h_on ⟨hc5, ?_⟩
  have hs2 := hc5.size
  have hy := hy.mono (B' := w.heap.size) (by have := hc2.size; have := hc3.size; have := hc4.size; omega)
  refine h_p 5 hc5 ?_
  refine h_nil ?_
  replace hv := hv.below hc5
  replace hbx := cell_below hbx hc5
  replace hb := hb.trans (hc5.mono hb.size)
  refine go ?_
  exact end_one Try.results116 rfl ⟨hy, hb⟩

set_option maxRecDepth 100000 in
theorem flagOrbits_any (v : Value) (pv : Addr) (ms : List (List Int)) (w : World) (hv : RL w v ms) (hxv : w.cell? pv = some v) (hm : IsMan ms) :
    Ret Try.prog 103 #[.pointer (some pv)] w fun r w' => ∃ lb, r = .tuple #[lb, .int .i64 (labc (nf ms) (auts ms))] ∧ OI w' w.heap.size 2 lb (labs (nf ms) (auts ms)) ∧ Below w.heap.size w w' := by
  have shv := hv.sv
  have hb := Below.refl w.heap.size w
  refine enter1 16 Try.func103 rfl Try.ntmps103 rfl (fun fr => ?_)
  have h1 := hm.m0.r1
  have h4 := hm.m0.f400
  have ha := auts_le hm
  refine go ?_
  refine region_h mixed (fun w1 hc1 => ?_)
  refine h_p 0 hc1 ?_
  refine h_p 2 hc1 ?_
  refine h_p 3 hc1 ?_
  refine h_p 4 hc1 ?_
  refine h_p 5 hc1 ?_
  refine h_p 6 hc1 ?_
  refine h_p 7 hc1 ?_
  refine h_one 1 ?_
  refine s_call1 (wn rfl) rfl rfl (flags_any _ _ _ _ (cell_below hxv hc1) (hv.below hc1) h1) ?_
  rintro _ _ ⟨rfl, rfl⟩
  refine w_nil ?_
  refine h_on ⟨hc1, ?_⟩
  refine h_one 8 ?_
  refine s_call2 (wn rfl) rfl rfl rfl (coveringsOf_any _ _ _ _ _ (hv.below hc1) (hv.below hc1) hm hm) ?_
  rintro x w2 ⟨hx, hb2⟩
  have hc2 := hc1.trans (hb2.mono hc1.size)
  refine w_nil ?_
  refine h_on ⟨hc2, ?_⟩
  refine h_one 9 ?_
  refine s_call2 (wn rfl) rfl rfl rfl (orbitLabels_any _ _ _ _ hx.rl (auts_sym hm) (by omega) (by unfold auts at ha; omega)) ?_
  rintro _ w3 ⟨lb, rfl, hy, hb3⟩
  have hc3 := hc2.trans (hb3.mono hc2.size)
  replace hx := hx.below hb3
  refine w_nil ?_
  refine h_on ⟨hc3, ?_⟩
  have hy := hy.mono (B' := w.heap.size) (by have := hc1.size; have := hc2.size; have := hc3.size; omega)
  refine h_p 10 hc3 ?_
  refine h_p 11 hc3 ?_
  refine h_p 12 hc3 ?_
  refine h_p 13 hc3 ?_
  refine h_nil ?_
  replace hv := hv.below hc3
  replace hxv := cell_below hxv hc3
  replace hb := hb.trans (hc3.mono hb.size)
  refine go ?_
  exact end_two Try.results103 rfl rfl ⟨lb, rfl, hy, hb⟩

set_option maxRecDepth 100000 in
theorem implFlagOrbits_any (v : Value) (ms : List (List Int)) (w : World) (hv : RL w v ms) :
    Ret Try.prog 40 #[.agg #[v]] w fun r w' => ∃ x, r = .tuple #[x, .int .i64 (manC ms)] ∧ OI w' w.heap.size 2 x (flagOrb ms) ∧ Below w.heap.size w w' := by
  have shv := hv.sv
  have hb := Below.refl w.heap.size w
  refine enter1 14 Try.func40 rfl Try.ntmps40 rfl (fun fr => ?_)
  refine go ?_
  refine s_box (wn rfl) rfl rfl (agg_cells shv) (fun w1 hbx _ hp hg => ?_)
  have hb1 := below_of_grownBy hg
  replace hv := hv.below hb1
  replace hb := hb.trans (hb1.mono hb.size)
  clear hg hp hb1
  generalize (⟨w.heap.size, 0, none⟩ : Addr) = p at *
  refine go ?_
  refine s_call1 (wn rfl) rfl rfl (isManiplex_any _ _ _ hv) ?_
  rintro _ w2 ⟨rfl, hb2⟩
  replace hv := hv.below hb2
  replace hbx := cell_below hbx hb2
  replace hb := hb.trans (hb2.mono hb.size)
  refine splitb (decide (IsMan ms)) (fun hm => ?_) (fun hm => ?_)
  rotate_left
  · have hm := of_decide_eq_false hm
    have e := And.intro (flagOrb_no hm) (manC_no hm)
    refine go ?_
    exact end_two Try.results40 rfl rfl ⟨.slice none 0 0, by rw [e.2], by rw [e.1]; exact OI.nil _ _ _, hb⟩
  have hm' := of_decide_eq_true hm
  have hs0 := hb.size
  refine go ?_
  refine s_call1 (wn rfl) rfl rfl (flagOrbits_any _ _ _ _ hv hbx hm') ?_
  rintro _ w3 ⟨x, rfl, hx, hb3⟩
  replace hv := hv.below hb3
  replace hbx := cell_below hbx hb3
  replace hb := hb.trans (hb3.mono hb.size)
  refine go ?_
  exact end_two Try.results40 rfl rfl ⟨x, by rw [manC_yes hm'], by rw [flagOrb_yes hm']; exact hx.mono hs0, hb⟩

set_option maxRecDepth 100000 in
theorem implIsRegular_any (v : Value) (ms : List (List Int)) (w : World) (hv : RL w v ms) :
    Ret Try.prog 41 #[.agg #[v]] w fun r w' => r = .tuple #[.bool (isReg ms), .int .i64 (manC ms)] ∧ Below w.heap.size w w' := by
  have shv := hv.sv
  have hb := Below.refl w.heap.size w
  refine enter1 15 Try.func41 rfl Try.ntmps41 rfl (fun fr => ?_)
  refine go ?_
  refine s_box (wn rfl) rfl rfl (agg_cells shv) (fun w1 hbx _ hp hg => ?_)
  have hb1 := below_of_grownBy hg
  replace hv := hv.below hb1
  replace hb := hb.trans (hb1.mono hb.size)
  clear hg hp hb1
  generalize (⟨w.heap.size, 0, none⟩ : Addr) = p at *
  refine go ?_
  refine s_call1 (wn rfl) rfl rfl (isManiplex_any _ _ _ hv) ?_
  rintro _ w2 ⟨rfl, hb2⟩
  replace hv := hv.below hb2
  replace hbx := cell_below hbx hb2
  replace hb := hb.trans (hb2.mono hb.size)
  refine splitb (decide (IsMan ms)) (fun hm => ?_) (fun hm => ?_)
  rotate_left
  · have hm := of_decide_eq_false hm
    have e := And.intro (isReg_no hm) (manC_no hm)
    refine go ?_
    exact end_two Try.results41 rfl rfl ⟨by rw [e.1, e.2], hb⟩
  have hm' := of_decide_eq_true hm
  refine go ?_
  refine s_call1 (wn rfl) rfl rfl (flagOrbits_any _ _ _ _ hv hbx hm') ?_
  rintro _ w3 ⟨x, rfl, hx, hb3⟩
  replace hv := hv.below hb3
  replace hbx := cell_below hbx hb3
  replace hb := hb.trans (hb3.mono hb.size)
  refine go ?_
  exact end_two Try.results41 rfl rfl ⟨by rw [isReg_yes hm', manC_yes hm'], hb⟩

set_option maxRecDepth 100000 in
theorem implIsChiral_any (v : Value) (ms : List (List Int)) (w : World) (hv : RL w v ms) :
    Ret Try.prog 42 #[.agg #[v]] w fun r w' => r = .tuple #[.bool (isChi ms), .int .i64 (manC ms)] ∧ Below w.heap.size w w' := by
  have shv := hv.sv
  have hb := Below.refl w.heap.size w
  refine enter1 44 Try.func42 rfl Try.ntmps42 rfl (fun fr => ?_)
  refine go ?_
  refine s_box (wn rfl) rfl rfl (agg_cells shv) (fun w1 hbx _ hp hg => ?_)
  have hb1 := below_of_grownBy hg
  replace hv := hv.below hb1
  replace hb := hb.trans (hb1.mono hb.size)
  clear hg hp hb1
  generalize (⟨w.heap.size, 0, none⟩ : Addr) = p at *
  refine go ?_
  refine s_call1 (wn rfl) rfl rfl (isManiplex_any _ _ _ hv) ?_
  rintro _ w2 ⟨rfl, hb2⟩
  replace hv := hv.below hb2
  replace hbx := cell_below hbx hb2
  replace hb := hb.trans (hb2.mono hb.size)
  refine splitb (decide (IsMan ms)) (fun hm => ?_) (fun hm => ?_)
  rotate_left
  · have hm := of_decide_eq_false hm
    have e := And.intro (isChi_no hm) (manC_no hm)
    refine go ?_
    exact end_two Try.results42 rfl rfl ⟨by rw [e.1, e.2], hb⟩
  have hm' := of_decide_eq_true hm
  have h1 := hm'.m0.r1
  have h5 := hm'.m0.r5
  have h4 := hm'.m0.f400
  have hL := labs_all (auts_sym hm') (by omega)
  have hc0 := hL.c0
  have hll := hL.len
  have hmem := hL.mem
  refine go ?_
  refine s_call1 (wn rfl) rfl rfl (flagOrbits_any _ _ _ _ hv hbx hm') ?_
  rintro _ w3 ⟨lb, rfl, hx, hb3⟩
  replace hv := hv.below hb3
  replace hbx := cell_below hbx hb3
  replace hb := hb.trans (hb3.mono hb.size)
  have hy := isChi_yes hm'
  generalize labs (nf ms) (auts ms) = L at *
  have sx := hx.sv
  have svv := hv.sv
  refine go ?_
  refine w_loop (fun k fr w' => ∃ (j : Nat), k = ms.length - j ∧ j ≤ ms.length ∧ fr 4 = lb ∧ fr 5 = .int .i64 (labc (nf ms) (auts ms)) ∧ fr 18 = v ∧ fr 19 = .int .i64 ms.length ∧ fr 20 = .int .i64 j ∧ (∀ i : Nat, i < j → ∀ g : Nat, g < nf ms → gi L (gi (gr ms i) g) ≠ gi L g) ∧ Below w3.heap.size w3 w') ms.length
    ⟨0, rfl, Nat.zero_le _, rfl, rfl, rfl, rfl, rfl, fun g hg => by omega, Below.refl _ _⟩ ?_
  rintro k fr wa ⟨j, rfl, hj, f4, f5, f18, f19, f20, hall, hba⟩
  have hva := hv.below hba
  have hxa := hx.below hba
  refine know (t := 4) f4 ?_; refine know (t := 5) f5 ?_; refine know (t := 18) f18 ?_; refine know (t := 19) f19 ?_; refine know (t := 20) f20 ?_
  refine go ?_
  refine cond_dec rfl (fun hlt => ?_) (fun hge => ?_)
  rotate_left
  · obtain rfl : j = ms.length := by omega
    refine go ?_
    exact end_two Try.results42 rfl rfl ⟨by
      rw [hy, manC_yes hm']
      have : (labc (nf ms) (auts ms) = 2 ∧ ChiAt ms L) ↔ labc (nf ms) (auts ms) = 2 := ⟨fun h => h.1, fun h => ⟨h, fun j hj f hf => hall j hj f hf⟩⟩
      rw [decide_eq_decide.2 this], hb.trans (hba.mono hb.size)⟩
  obtain ⟨u, hu, hcu⟩ := hva.row (j := (j : Int)) (by omega) (by omega)
  have su := hu.sv
  have hrow := hm'.syst.row (j := (j : Int)) (by omega) hlt
  have hrl := hrow.1
  rw [hrl] at su
  refine go ?_
  refine w_loop (fun k fr w' => ∃ (f : Nat), k = nf ms - f ∧ f ≤ nf ms ∧ fr 4 = lb ∧ fr 5 = .int .i64 (labc (nf ms) (auts ms)) ∧ fr 18 = v ∧ fr 19 = .int .i64 ms.length ∧ fr 20 = .int .i64 j ∧ fr 24 = u ∧ fr 25 = .int .i64 (nf ms) ∧ fr 26 = .int .i64 f ∧ (∀ g : Nat, g < f → gi L (gi (gr ms j) g) ≠ gi L g) ∧ Below wa.heap.size wa w') (nf ms)
    ⟨0, rfl, Nat.zero_le _, rfl, rfl, rfl, rfl, rfl, rfl, rfl, rfl, fun g hg => by omega, Below.refl _ _⟩ ?_
  rintro k fr wb ⟨f, rfl, hf, f4, f5, f18, f19, f20, f24, f25, f26, hall2, hbb⟩
  have hub := hu.below hbb
  have hxb := hxa.below hbb
  have sxb := hxb.sv
  refine know (t := 4) f4 ?_; refine know (t := 5) f5 ?_; refine know (t := 18) f18 ?_; refine know (t := 19) f19 ?_; refine know (t := 20) f20 ?_; refine know (t := 24) f24 ?_; refine know (t := 25) f25 ?_; refine know (t := 26) f26 ?_
  refine go ?_
  refine cond_dec rfl (fun hlt2 => ?_) (fun hge2 => ?_)
  · have hyy := hm'.syst.at (j := (j : Int)) (x := (f : Int)) (by omega) hlt (by omega)
    refine go ?_
    refine region_q mixed (by kernel_rfl) ?_; refine qo ?_; refine q_nil ?_
    intro wc hbc
    have hbc := hbb.trans (hbc.mono hbb.size)
    refine go ?_
    refine cond_dec rfl (fun heq => ?_) (fun hne => ?_)
    · refine go ?_
      exact end_two Try.results42 rfl rfl ⟨by rw [hy, manC_yes hm', decide_eq_false]; exact fun e => e.2 j (by omega) f (by omega) heq.symm, hb.trans ((hba.trans (hbc.mono hba.size)).mono hb.size)⟩
    · refine go ?_
      refine ⟨nf ms - (f + 1), by omega, f + 1, rfl, by omega, rfl, rfl, rfl, rfl, rfl, rfl, rfl, rfl, fun g hg => ?_, hbc⟩
      by_cases hgf : g = f
      · subst hgf; exact fun e => hne e.symm
      · exact hall2 g (by omega)
  · obtain rfl : f = nf ms := by omega
    refine go ?_
    refine ⟨ms.length - (j + 1), by omega, j + 1, rfl, by omega, rfl, rfl, rfl, rfl, rfl, fun i hi => ?_, hba.trans (hbb.mono hba.size)⟩
    by_cases hij : i = j
    · subst hij; exact hall2
    · exact hall i (by omega)

end Go.Proofs.Ytlodnhflfijomaa
