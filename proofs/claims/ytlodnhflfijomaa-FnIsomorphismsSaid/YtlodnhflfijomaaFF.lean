/- Texts laid together: F22 F23. -/
import Derived.Test.YtlodnhflfijomaaFD
import Derived.Test.YtlodnhflfijomaaPC
import Derived.Test.YtlodnhflfijomaaWC
import Derived.Test.YtlodnhflfijomaaFE
/- Contracts: StandardAutomorphisms, SymmetryType, on both sides. -/
namespace Go.Proofs.Ytlodnhflfijomaa
open Go.Mem Go.RowKit
set_option linter.unusedVariables false
theorem l01Index_any (v : Value) (xs : List Int) (a : Int) (w : World) (hv : IL w v xs) :
    Ret Try.prog 83 #[v, .int .i64 a] w fun r w' => r = .int .i64 (idxOf xs a) ∧ w = w' := by
  have sv := hv.sv
  have scap := sv.le
  refine enter2 19 Try.func83 rfl Try.ntmps83 rfl (fun fr => ?_)
  refine go ?_
  refine w_loop (fun k fr w' => ∃ (i : Nat), k = xs.length - i ∧ i ≤ xs.length ∧ fr 0 = v ∧ fr 1 = .int .i64 a ∧ fr 5 = .int .i64 i ∧ (∀ j : Nat, j < i → gi xs j ≠ a) ∧ w = w') xs.length
    ⟨0, rfl, Nat.zero_le _, rfl, rfl, rfl, fun j hj => by omega, rfl⟩ ?_
  rintro k fr _ ⟨i, rfl, hi, f0, f1, f5, hall, rfl⟩
  refine know (t := 0) f0 ?_; refine know (t := 1) f1 ?_; refine know (t := 5) f5 ?_
  refine go ?_
  refine cond_dec rfl (fun hlt => ?_) (fun hge => ?_)
  · refine go ?_
    refine cond_dec rfl (fun he => ?_) (fun hne => ?_)
    · refine go ?_
      exact end_one Try.results83 rfl ⟨by rw [idxOf_hit (by omega) he hall], rfl⟩
    · refine go ?_
      exact ⟨xs.length - (i + 1), by omega, i + 1, rfl, by omega, rfl, rfl, rfl, fun j hj => by by_cases hji : j = i; (subst hji; exact hne); exact hall j (by omega), rfl⟩
  · obtain rfl : i = xs.length := by omega
    refine go ?_
    exact end_one Try.results83 rfl ⟨by rw [idxOf_none hall], rfl⟩

set_option maxHeartbeats 8000000 in
set_option maxRecDepth 100000 in
theorem implStandardAutomorphisms_any (v : Value) (ms : List (List Int)) (w : World) (hv : RL w v ms) :
    Ret Try.prog 56 #[.agg #[v]] w fun r w' => ∃ x, r = .tuple #[x, .int .i64 (stdAC ms)] ∧ OM w' w.heap.size w'.heap.size 40 2 x (stdA ms) ∧ Below w.heap.size w w' := by
  have shv := hv.sv
  have hb := Below.refl w.heap.size w
  refine enter1 36 Try.func56 rfl Try.ntmps56 rfl (fun fr => ?_)
  refine go ?_
  refine s_box (wn rfl) rfl rfl (agg_cells shv) (fun w1 hbx _ hp hg => ?_)
  have hb1 := below_of_grownBy hg
  have sw1 := hb1.size
  replace hv := hv.below hb1
  replace hb := hb.trans (hb1.mono hb.size)
  clear hg hp hb1
  generalize (⟨w.heap.size, 0, none⟩ : Addr) = p at *
  refine go ?_
  refine s_call1 (wn rfl) rfl rfl (isManiplex_any _ _ _ hv) ?_
  rintro _ w2 ⟨rfl, hb2⟩
  have sw2 := hb2.size
  replace hv := hv.below hb2
  replace hbx := cell_below hbx hb2
  replace hb := hb.trans (hb2.mono hb.size)
  refine splitb (decide (IsMan ms)) (fun hm => ?_) (fun hm => ?_)
  rotate_left
  · have hm := of_decide_eq_false hm
    have e := stdA_1 hm
    refine go ?_
    exact end_two Try.results56 rfl rfl ⟨.slice none 0 0, by rw [e.2], by rw [e.1]; exact OM.nil _ _ _ _ _, hb⟩
  have hm' := of_decide_eq_true hm
  have h1 := hm'.m0.r1
  have h5 := hm'.m0.r5
  have h2 := hm'.m0.f2
  have h4 := hm'.m0.f400
  have hs0 := hb.size
  have hcp := labc_pos hm'
  refine go ?_
  refine s_call1 (wn rfl) rfl rfl (flagOrbits_any _ _ _ _ hv hbx hm') ?_
  rintro _ w3 ⟨lb, rfl, hx, hb3⟩
  have sw3 := hb3.size
  replace hv := hv.below hb3
  replace hbx := cell_below hbx hb3
  replace hb := hb.trans (hb3.mono hb.size)
  refine go ?_
  refine cond_dec rfl (fun h => ?_) (fun h => ?_)
  · have e := stdA_2 hm' (by omega)
    refine go ?_
    exact end_two Try.results56 rfl rfl ⟨.slice none 0 0, by rw [e.2], by rw [e.1]; exact OM.nil _ _ _ _ _, hb⟩
  have hreg : labc (nf ms) (auts ms) = 1 := by omega
  have e := stdA_3 hm' hreg
  have sbs1 := hb.size
  have hv_b1 := hv
  have hbx_b1 := hbx
  have hbB1 := Below.refl w3.heap.size w3
  refine go ?_
  refine w_loop (fun k fr w' => ∃ (i : Nat) (ob : Value), k = ms.length - i ∧ i ≤ ms.length ∧ fr 1 = .pointer (some p) ∧ fr 6 = ob ∧ fr 19 = v ∧ fr 20 = .int .i64 ms.length ∧ fr 21 = .int .i64 i ∧ (OM w' w3.heap.size w'.heap.size 40 2 ob ((List.range i).map (fun k : Nat => (mapTo ms ms (gi (gr ms k) 0)).getD []))) ∧ Below w3.heap.size w3 w') (ms.length)
    ⟨0, _, rfl, Nat.zero_le _, rfl, rfl, rfl, rfl, rfl, OM.nil _ _ _ _ _, hbB1⟩ ?_
  rintro k fr w4 ⟨i, ob, rfl, hi, f1, f6, f19, f20, f21, ho, hbB1⟩
  have sw4 := hbB1.size
  have hv := hv_b1.below hbB1
  have hbx := cell_below hbx_b1 hbB1
  have sho := ho.sv
  refine know (t := 1) f1 ?_; refine know (t := 6) f6 ?_; refine know (t := 19) f19 ?_; refine know (t := 20) f20 ?_; refine know (t := 21) f21 ?_
  refine go ?_
  refine cond_dec rfl (fun hlt => ?_) (fun hge => ?_)
  · have hy := hm'.syst.at (j := (i : Int)) (x := 0) (by omega) hlt (by omega)
    have hrow := hm'.syst.row (j := (i : Int)) (by omega) hlt
    have hrl := hrow.1
    have hgr := stdA_gr hm' hreg (k := i) (by omega)
    obtain ⟨u, hu_b1, hcu_b1⟩ := hv_b1.row (j := (i : Int)) (by omega) hlt
    have su := hu_b1.sv
    have hu := hu_b1.below hbB1
    have hcu := cell_below hcu_b1 hbB1
    refine go ?_
    refine region_hS (fun w' => Below w3.heap.size w3 w') mixed (fun w5 hb5 => ?_)
    have sw5 := hb5.size
    replace hv := hv.below hb5
    replace hbx := cell_below hbx hb5
    replace ho := ho.below hb5
    replace hu := hu.below hb5
    replace hcu := cell_below hcu hb5
    replace hbB1 := hbB1.trans (hb5.mono hbB1.size)
    refine h_p 0 hbB1 ?_
    refine h_p 1 hbB1 ?_
    refine h_p 2 hbB1 ?_
    refine h_p 3 hbB1 ?_
    refine h_p 4 hbB1 ?_
    refine h_p 5 hbB1 ?_
    replace ho := ho.top
    refine h_one 6 ?_
    refine s_call3 (wn rfl) rfl rfl rfl rfl (coveringTo_any _ _ _ _ (gi (gr ms i) 0) _ hv hv hm' hm' hy) ?_
    rintro y w6 ⟨hy2, hb6⟩
    have sw6 := hb6.size
    replace hv := hv.below hb6
    replace hbx := cell_below hbx hb6
    replace ho := ho.below hb6
    replace hu := hu.below hb6
    replace hcu := cell_below hcu hb6
    replace hbB1 := hbB1.trans (hb6.mono hbB1.size)
    rw [mapT_self] at hy2
    replace hy2 := hy2.oi
    refine w_nil ?_
    refine h_on ⟨hbB1, ?_⟩
    refine h_one 7 ?_
    have szq7 := hbB1.size
    refine s_build1V (B := w3.heap.size) (wn rfl) rfl rfl hy2.sv.one szq7 (fun tb w7 ht st hg7 _ => ?_)
    have hb7 := below_of_grownBy hg7
    have sw7 := hb7.size
    replace hv := hv.below hb7
    replace hbx := cell_below hbx hb7
    replace ho := ho.below hb7
    replace hu := hu.below hb7
    replace hcu := cell_below hcu hb7
    replace hy2 := hy2.below hb7
    replace hbB1 := hbB1.trans (hb7.mono hbB1.size)
    have szq8 := hbB1.size
    refine w_nil ?_
    refine h_on ⟨hbB1, ?_⟩
    refine h_one 8 ?_
    refine s_appendM (wn rfl) rfl rfl rfl ho ht.rd hy2 (by omega) (by decide) (by simp; omega) szq8 (fun ob' w8 hoN so hgN => ?_)
    replace hbB1 := hbB1.trans (ho.below_of hgN szq8)
    have sw8 := hgN.size
    replace ho := hoN
    clear hoN
    replace hv := hv_b1.below hbB1
    replace hbx := cell_below hbx_b1 hbB1
    replace hu := hu_b1.below hbB1
    replace hcu := cell_below hcu_b1 hbB1
    refine w_nil ?_
    refine h_on ⟨hbB1, ?_⟩
    refine h_p 9 hbB1 ?_
    refine h_nil ?_
    refine go ?_
    refine ⟨ms.length - (i + 1), by omega, i + 1, ob', rfl, by omega, rfl, rfl, rfl, rfl, rfl, by rw [std_take_succ]; exact ho, hbB1⟩
  obtain rfl : i = ms.length := by omega
  refine go ?_
  exact end_two Try.results56 rfl rfl ⟨ob, by rw [e.2], by rw [e.1]; exact (ho.mono (by omega)).top, (hb.trans (hbB1.mono hb.size))⟩

theorem move_comm {ms : List (List Int)} (hm : IsMan ms) {j : Nat} (hj : j < ms.length) : Comm (nf ms) (auts ms) (gr ms j) := by
  refine ⟨(hm.syst.row (j := (j : Int)) (by omega) (by omega)).1, fun x h0 hx => hm.syst.at (j := (j : Int)) (by omega) (by omega) ⟨h0, hx⟩, fun p hp x h0 hx => ?_⟩
  exact (((mem_auts hm).1 hp).mv j hj x h0 hx).symm
theorem map_take_succ {g : List Int → List Int} {ms : List (List Int)} {i : Nat} (h : i < ms.length) : (ms.take (i + 1)).map g = (ms.take i).map g ++ [g (gr ms i)] := by
  rw [List.take_succ_eq_append_getElem h, List.map_append]
  simp [gr, List.getD, h]

set_option maxHeartbeats 8000000 in
set_option maxRecDepth 100000 in
theorem specSymmetryType_any (v : Value) (ms : List (List Int)) (w : World) (hv : RL w v ms) :
    Ret Try.prog 55 #[.agg #[v]] w fun r w' => ∃ x, r = .tuple #[x, .int .i64 (manC ms)] ∧ OM w' w.heap.size w'.heap.size 40 2 x (symT ms) ∧ Below w.heap.size w w' := by
  have shv := hv.sv
  have hb := Below.refl w.heap.size w
  refine enter1 50 Try.func55 rfl Try.ntmps55 rfl (fun fr => ?_)
  refine go ?_
  refine s_box (wn rfl) rfl rfl (agg_cells shv) (fun w1 hbx _ hp hg => ?_)
  have hb1 := below_of_grownBy hg
  have sw1 := hb1.size
  replace hv := hv.below hb1
  replace hb := hb.trans (hb1.mono hb.size)
  clear hg hp hb1
  generalize (⟨w.heap.size, 0, none⟩ : Addr) = p at *
  refine go ?_
  refine s_call1 (wn rfl) rfl rfl (l02Is_any _ _ _ hv) ?_
  rintro _ w2 ⟨rfl, hb2⟩
  have sw2 := hb2.size
  replace hv := hv.below hb2
  replace hbx := cell_below hbx hb2
  replace hb := hb.trans (hb2.mono hb.size)
  refine splitb (decide (IsMan ms)) (fun hm => ?_) (fun hm => ?_)
  rotate_left
  · have hm := of_decide_eq_false hm
    have e := And.intro (symT_no hm) (manC_no hm)
    refine go ?_
    exact end_two Try.results55 rfl rfl ⟨.slice none 0 0, by rw [e.2], by rw [e.1]; exact OM.nil _ _ _ _ _, hb⟩
  have hm' := of_decide_eq_true hm
  have h1 := hm'.m0.r1
  have h5 := hm'.m0.r5
  have h2 := hm'.m0.f2
  have h4 := hm'.m0.f400
  have hL := labs_all (auts_sym hm') (by omega)
  have hc0 := hL.c0
  have hll := hL.len
  have hgre := gre_labs (auts_sym hm') (by omega)
  have hmem := hL.mem
  have hs0 := hb.size
  have e := And.intro (symT_yes hm') (manC_yes hm')
  refine go ?_
  refine s_call1 (wn rfl) rfl rfl (l06Orbits_any _ _ _ hv hm') ?_
  rintro lb w3 ⟨hx, hb3⟩
  have sw3 := hb3.size
  replace hv := hv.below hb3
  replace hbx := cell_below hbx hb3
  replace hb := hb.trans (hb3.mono hb.size)
  have sbs1 := hb.size
  have hv_b1 := hv
  have hbx_b1 := hbx
  have hx_b1 := hx
  have hbB1 := Below.refl w3.heap.size w3
  refine go ?_
  have szq4 := hbB1.size
  refine s_build (B := w3.heap.size) [] (wn rfl) rfl (by simp) (by decide) rfl (by simp) szq4 (fun ob w4 ho hg4 _ => ?_)
  have hb4 := below_of_grownBy hg4
  have sw4 := hb4.size
  replace hv := hv.below hb4
  replace hbx := cell_below hbx hb4
  replace hx := hx.below hb4
  replace hbB1 := hbB1.trans (hb4.mono hbB1.size)
  replace ho := OM.empty (E := w4.heap.size) (U := 2) ho
  refine go ?_
  refine w_loop (fun k fr w' => ∃ (i : Nat) (ob : Value), k = ms.length - i ∧ i ≤ ms.length ∧ fr 1 = .pointer (some p) ∧ fr 4 = lb ∧ fr 5 = ob ∧ fr 6 = .int .i64 i ∧ (OM w' w3.heap.size w'.heap.size 40 2 ob ((ms.take i).map (symRow (labs (nf ms) (auts ms)) (labc (nf ms) (auts ms)).toNat))) ∧ Below w3.heap.size w3 w') (ms.length)
    ⟨0, ob, rfl, Nat.zero_le _, rfl, rfl, rfl, rfl, ho.top, hbB1⟩ ?_
  rintro k fr w5 ⟨i, ob, rfl, hi, f1, f4, f5, f6, ho, hbB1⟩
  have sw5 := hbB1.size
  have hv := hv_b1.below hbB1
  have hbx := cell_below hbx_b1 hbB1
  have hx := hx_b1.below hbB1
  have sho := ho.sv
  refine know (t := 1) f1 ?_; refine know (t := 4) f4 ?_; refine know (t := 5) f5 ?_; refine know (t := 6) f6 ?_
  refine go ?_
  refine cond_dec rfl (fun hlt => ?_) (fun hge => ?_)
  · replace ho := ho.top
    have hrow := hm'.syst.row (j := (i : Int)) (by omega) hlt
    have hrl := hrow.1
    have sbs2 := hbB1.size
    have hv_b2 := hv
    have hbx_b2 := hbx
    have hx_b2 := hx
    have ho_b2 := ho
    have hbB2 := Below.refl w5.heap.size w5
    obtain ⟨u, hu_b2, hcu_b2⟩ := hv_b2.row (j := (i : Int)) (by omega) hlt
    have su := hu_b2.sv
    have hu := hu_b2.below hbB2
    have hcu := cell_below hcu_b2 hbB2
    refine go ?_
    have szq6 := hbB2.size
    refine s_build0 (B := w5.heap.size) (wn rfl) rfl szq6 (fun rb w6 hr so hg6 _ => ?_)
    have hb6 := below_of_grownBy hg6
    have sw6 := hb6.size
    replace hv := hv.below hb6
    replace hbx := cell_below hbx hb6
    replace hx := hx.below hb6
    replace ho := ho.below hb6
    replace hu := hu.below hb6
    replace hcu := cell_below hcu hb6
    replace hbB2 := hbB2.trans (hb6.mono hbB2.size)
    refine go ?_
    refine w_loop (fun k fr w' => ∃ (t : Nat) (rb : Value), k = (labc (nf ms) (auts ms)).toNat - t ∧ t ≤ (labc (nf ms) (auts ms)).toNat ∧ fr 1 = .pointer (some p) ∧ fr 4 = lb ∧ fr 5 = ob ∧ fr 6 = .int .i64 i ∧ fr 7 = rb ∧ fr 8 = .int .i64 t ∧ (OI w' w5.heap.size 2 rb ((List.range t).map fun o : Nat => gi (labs (nf ms) (auts ms)) (gi (gr ms i) (idxOf (labs (nf ms) (auts ms)) o)))) ∧ Below w5.heap.size w5 w') ((labc (nf ms) (auts ms)).toNat)
      ⟨0, rb, rfl, Nat.zero_le _, rfl, rfl, rfl, rfl, rfl, rfl, hr, hbB2⟩ ?_
    rintro k fr w7 ⟨t, rb, rfl, ht, f1, f4, f5, f6, f7, f8, hr, hbB2⟩
    have sw7 := hbB2.size
    have hv := hv_b2.below hbB2
    have hbx := cell_below hbx_b2 hbB2
    have hx := hx_b2.below hbB2
    have ho := ho_b2.below hbB2
    have hu := hu_b2.below hbB2
    have hcu := cell_below hcu_b2 hbB2
    have shr := hr.sv
    refine know (t := 1) f1 ?_; refine know (t := 4) f4 ?_; refine know (t := 5) f5 ?_; refine know (t := 6) f6 ?_; refine know (t := 7) f7 ?_; refine know (t := 8) f8 ?_
    refine go ?_
    refine s_call1 (wn rfl) rfl rfl (l02Greatest_any _ _ _ hx.il (fun x h => by have := hmem x h; omega)) ?_
    rintro _ _ ⟨rfl, rfl⟩
    rw [hgre]
    refine go ?_
    refine cond_dec rfl (fun hlt2 => ?_) (fun hge2 => ?_)
    · obtain ⟨x, hx0, _, hxn, hxe⟩ := hL.hit t (by omega) hlt2
      obtain ⟨i0, i1, i2⟩ := idxOf_mem (xs := labs (nf ms) (auts ms)) (a := (t : Int)) (by rw [← hxe]; exact gi_mem hx0 (by omega))
      have hyy := hm'.syst.at (j := (i : Int)) (x := idxOf (labs (nf ms) (auts ms)) t) (by omega) hlt (by omega)
      have sx := hx.sv
      refine go ?_
      refine region_hS (fun w' => Below w5.heap.size w5 w') mixed (fun w8 hb8 => ?_)
      have sw8 := hb8.size
      replace hv := hv.below hb8
      replace hbx := cell_below hbx hb8
      replace hx := hx.below hb8
      replace ho := ho.below hb8
      replace hu := hu.below hb8
      replace hcu := cell_below hcu hb8
      replace hr := hr.below hb8
      replace hbB2 := hbB2.trans (hb8.mono hbB2.size)
      refine h_p 0 hbB2 ?_
      refine h_p 1 hbB2 ?_
      refine h_p 2 hbB2 ?_
      refine h_p 3 hbB2 ?_
      refine h_p 4 hbB2 ?_
      refine h_p 5 hbB2 ?_
      refine h_p 6 hbB2 ?_
      refine h_p 7 hbB2 ?_
      refine h_p 8 hbB2 ?_
      refine h_one 9 ?_
      refine s_call2 (wn rfl) rfl rfl rfl (l01Index_any _ _ (t : Int) _ hx.il) ?_
      rintro _ _ ⟨rfl, rfl⟩
      refine w_nil ?_
      refine h_on ⟨hbB2, ?_⟩
      refine h_p 10 hbB2 ?_
      refine h_p 11 hbB2 ?_
      refine h_p 12 hbB2 ?_
      refine h_p 13 hbB2 ?_
      refine h_one 14 ?_
      have szq9 := hbB2.size
      refine s_build1 (B := w5.heap.size) (wn rfl) rfl rfl szq9 (fun tb w9 ht st hg9 _ => ?_)
      have hb9 := below_of_grownBy hg9
      have sw9 := hb9.size
      replace hv := hv.below hb9
      replace hbx := cell_below hbx hb9
      replace hx := hx.below hb9
      replace ho := ho.below hb9
      replace hu := hu.below hb9
      replace hcu := cell_below hcu hb9
      replace hr := hr.below hb9
      replace hbB2 := hbB2.trans (hb9.mono hbB2.size)
      have szq10 := hbB2.size
      refine w_nil ?_
      refine h_on ⟨hbB2, ?_⟩
      refine h_one 15 ?_
      refine s_appendI (wn rfl) rfl rfl rfl hr ht.il (by simp; omega) szq10 (fun rb' w10 hoN so hgN _ => ?_)
      replace hbB2 := hbB2.trans (hr.below_of hgN szq10)
      have sw10 := hgN.size
      replace hr := hoN
      clear hoN
      replace hv := hv_b2.below hbB2
      replace hbx := cell_below hbx_b2 hbB2
      replace hx := hx_b2.below hbB2
      replace ho := ho_b2.below hbB2
      replace hu := hu_b2.below hbB2
      replace hcu := cell_below hcu_b2 hbB2
      refine w_nil ?_
      refine h_on ⟨hbB2, ?_⟩
      refine h_p 16 hbB2 ?_
      refine h_nil ?_
      refine go ?_
      refine ⟨(labc (nf ms) (auts ms)).toNat - (t + 1), by omega, t + 1, rb', rfl, by omega, rfl, rfl, rfl, rfl, rfl, rfl, by simpa [List.range_succ] using hr, hbB2⟩
    obtain rfl : t = (labc (nf ms) (auts ms)).toNat := by omega
    replace hbB1 := hbB1.trans (hbB2.mono hbB1.size)
    refine go ?_
    have szq11 := hbB1.size
    refine s_build1V (B := w3.heap.size) (wn rfl) rfl rfl hr.sv.one szq11 (fun tb w11 ht st hg11 _ => ?_)
    have hb11 := below_of_grownBy hg11
    have sw11 := hb11.size
    replace hv := hv.below hb11
    replace hbx := cell_below hbx hb11
    replace hx := hx.below hb11
    replace ho := ho.below hb11
    replace hu := hu.below hb11
    replace hcu := cell_below hcu hb11
    replace hr := hr.below hb11
    replace hbB1 := hbB1.trans (hb11.mono hbB1.size)
    have szq12 := hbB1.size
    refine s_appendM (wn rfl) rfl rfl rfl ho ht.rd hr (by omega) (by decide) (by simp; omega) szq12 (fun ob' w12 hoN so hgN => ?_)
    replace hbB1 := hbB1.trans (ho.below_of hgN szq12)
    have sw12 := hgN.size
    replace ho := hoN
    clear hoN
    replace hv := hv_b1.below hbB1
    replace hbx := cell_below hbx_b1 hbB1
    replace hx := hx_b1.below hbB1
    refine go ?_
    refine ⟨ms.length - (i + 1), by omega, i + 1, ob', rfl, by omega, rfl, rfl, rfl, rfl, by rw [map_take_succ (by omega)]; exact ho, hbB1⟩
  obtain rfl : i = ms.length := by omega
  rw [List.take_length] at ho
  refine go ?_
  exact end_two Try.results55 rfl rfl ⟨ob, by rw [e.2], by rw [e.1]; exact (ho.mono (by omega)).top, (hb.trans (hbB1.mono hb.size))⟩

set_option maxHeartbeats 8000000 in
set_option maxRecDepth 100000 in
theorem implSymmetryType_any (v : Value) (ms : List (List Int)) (w : World) (hv : RL w v ms) :
    Ret Try.prog 54 #[.agg #[v]] w fun r w' => ∃ x, r = .tuple #[x, .int .i64 (manC ms)] ∧ OM w' w.heap.size w'.heap.size 40 2 x (symT ms) ∧ Below w.heap.size w w' := by
  have shv := hv.sv
  have hb := Below.refl w.heap.size w
  refine enter1 52 Try.func54 rfl Try.ntmps54 rfl (fun fr => ?_)
  refine go ?_
  refine s_box (wn rfl) rfl rfl (agg_cells shv) (fun w1 hbx _ hp hg => ?_)
  have hb1 := below_of_grownBy hg
  have sw1 := hb1.size
  replace hv := hv.below hb1
  replace hb := hb.trans (hb1.mono hb.size)
  clear hg hp hb1
  generalize (⟨w.heap.size, 0, none⟩ : Addr) = p at *
  refine go ?_
  refine s_call1 (wn rfl) rfl rfl (isManiplex_any _ _ _ hv) ?_
  rintro _ w2 ⟨rfl, hb2⟩
  have sw2 := hb2.size
  replace hv := hv.below hb2
  replace hbx := cell_below hbx hb2
  replace hb := hb.trans (hb2.mono hb.size)
  refine splitb (decide (IsMan ms)) (fun hm => ?_) (fun hm => ?_)
  rotate_left
  · have hm := of_decide_eq_false hm
    have e := And.intro (symT_no hm) (manC_no hm)
    refine go ?_
    exact end_two Try.results54 rfl rfl ⟨.slice none 0 0, by rw [e.2], by rw [e.1]; exact OM.nil _ _ _ _ _, hb⟩
  have hm' := of_decide_eq_true hm
  have h1 := hm'.m0.r1
  have h5 := hm'.m0.r5
  have h2 := hm'.m0.f2
  have h4 := hm'.m0.f400
  have hL := labs_all (auts_sym hm') (by omega)
  have hc0 := hL.c0
  have hll := hL.len
  have hgre := gre_labs (auts_sym hm') (by omega)
  have hmem := hL.mem
  have hs0 := hb.size
  have e := And.intro (symT_yes hm') (manC_yes hm')
  refine go ?_
  refine s_call1 (wn rfl) rfl rfl (flagOrbits_any _ _ _ _ hv hbx hm') ?_
  rintro _ w3 ⟨lb, rfl, hx, hb3⟩
  have sw3 := hb3.size
  replace hv := hv.below hb3
  replace hbx := cell_below hbx hb3
  replace hb := hb.trans (hb3.mono hb.size)
  have sbs1 := hb.size
  have hv_b1 := hv
  have hbx_b1 := hbx
  have hx_b1 := hx
  have hbB1 := Below.refl w3.heap.size w3
  refine go ?_
  refine w_loop (fun k fr w' => ∃ (i : Nat) (ob : Value), k = ms.length - i ∧ i ≤ ms.length ∧ fr 4 = lb ∧ fr 5 = .int .i64 (labc (nf ms) (auts ms)) ∧ fr 6 = ob ∧ fr 20 = v ∧ fr 21 = .int .i64 ms.length ∧ fr 22 = .int .i64 i ∧ (OM w' w3.heap.size w'.heap.size 40 2 ob ((ms.take i).map (symRow (labs (nf ms) (auts ms)) (labc (nf ms) (auts ms)).toNat))) ∧ Below w3.heap.size w3 w') (ms.length)
    ⟨0, _, rfl, Nat.zero_le _, rfl, rfl, rfl, rfl, rfl, rfl, OM.nil _ _ _ _ _, hbB1⟩ ?_
  rintro k fr w4 ⟨i, ob, rfl, hi, f4, f5, f6, f20, f21, f22, ho, hbB1⟩
  have sw4 := hbB1.size
  have hv := hv_b1.below hbB1
  have hbx := cell_below hbx_b1 hbB1
  have hx := hx_b1.below hbB1
  have sho := ho.sv
  refine know (t := 4) f4 ?_; refine know (t := 5) f5 ?_; refine know (t := 6) f6 ?_; refine know (t := 20) f20 ?_; refine know (t := 21) f21 ?_; refine know (t := 22) f22 ?_
  refine go ?_
  refine cond_dec rfl (fun hlt => ?_) (fun hge => ?_)
  · replace ho := ho.top
    have hrow := hm'.syst.row (j := (i : Int)) (by omega) hlt
    have hrl := hrow.1
    have sbs2 := hbB1.size
    have hv_b2 := hv
    have hbx_b2 := hbx
    have hx_b2 := hx
    have ho_b2 := ho
    have hbB2 := Below.refl w4.heap.size w4
    obtain ⟨u, hu_b2, hcu_b2⟩ := hv_b2.row (j := (i : Int)) (by omega) hlt
    have su := hu_b2.sv
    rw [hrl] at su
    have hu := hu_b2.below hbB2
    have hcu := cell_below hcu_b2 hbB2
    refine go ?_
    have szq5 := hbB2.size
    refine s_makeI (B := w4.heap.size) (wn rfl) rfl rfl rfl (by omega) (by omega) szq5 (fun rb w5 hr sohr hg5 _ => ?_)
    have hb5 := below_of_grownBy hg5
    have sw5 := hb5.size
    replace hv := hv.below hb5
    replace hbx := cell_below hbx hb5
    replace hx := hx.below hb5
    replace ho := ho.below hb5
    replace hu := hu.below hb5
    replace hcu := cell_below hcu hb5
    replace hbB2 := hbB2.trans (hb5.mono hbB2.size)
    refine go ?_
    refine w_loop (fun k fr w' => ∃ (q : Nat), k = nf ms - q ∧ q ≤ nf ms ∧ fr 4 = lb ∧ fr 5 = .int .i64 (labc (nf ms) (auts ms)) ∧ fr 6 = ob ∧ fr 20 = v ∧ fr 21 = .int .i64 ms.length ∧ fr 22 = .int .i64 i ∧ fr 9 = rb ∧ fr 28 = u ∧ fr 29 = .int .i64 (nf ms) ∧ fr 30 = .int .i64 q ∧ (OI w' w4.heap.size 2 rb (laidTo (labc (nf ms) (auts ms)).toNat (labs (nf ms) (auts ms)) (fun f : Nat => gi (labs (nf ms) (auts ms)) (gi (gr ms i) f)) q)) ∧ Below w4.heap.size w4 w') (nf ms)
      ⟨0, rfl, Nat.zero_le _, rfl, rfl, rfl, rfl, rfl, rfl, rfl, rfl, rfl, rfl, hr, hbB2⟩ ?_
    rintro k fr w6 ⟨q, rfl, hq, f4, f5, f6, f20, f21, f22, f9, f28, f29, f30, hr, hbB2⟩
    have sw6 := hbB2.size
    have hv := hv_b2.below hbB2
    have hbx := cell_below hbx_b2 hbB2
    have hx := hx_b2.below hbB2
    have ho := ho_b2.below hbB2
    have hu := hu_b2.below hbB2
    have hcu := cell_below hcu_b2 hbB2
    have shr := hr.sv
    refine know (t := 4) f4 ?_; refine know (t := 5) f5 ?_; refine know (t := 6) f6 ?_; refine know (t := 20) f20 ?_; refine know (t := 21) f21 ?_; refine know (t := 22) f22 ?_; refine know (t := 9) f9 ?_; refine know (t := 28) f28 ?_; refine know (t := 29) f29 ?_; refine know (t := 30) f30 ?_
    refine go ?_
    refine cond_dec rfl (fun hlt2 => ?_) (fun hge2 => ?_)
    · have hyy := hm'.syst.at (j := (i : Int)) (x := (q : Int)) (by omega) hlt (by omega)
      have hq1 := hL.done q (by omega) (by omega) (by omega)
      have hq2 := (hL.rng q (by omega) (by omega)).2
      have hll2 := length_laidTo (labc (nf ms) (auts ms)).toNat (labs (nf ms) (auts ms)) (fun f : Nat => gi (labs (nf ms) (auts ms)) (gi (gr ms i) f)) q
      have sx := hx.sv
      refine go ?_
      refine region_hS (fun w' => Below w4.heap.size w4 w') mixed (fun w7 hb7 => ?_)
      have sw7 := hb7.size
      replace hv := hv.below hb7
      replace hbx := cell_below hbx hb7
      replace hx := hx.below hb7
      replace ho := ho.below hb7
      replace hu := hu.below hb7
      replace hcu := cell_below hcu hb7
      replace hr := hr.below hb7
      replace hbB2 := hbB2.trans (hb7.mono hbB2.size)
      refine h_p 0 hbB2 ?_
      refine h_p 1 hbB2 ?_
      refine h_p 2 hbB2 ?_
      refine h_p 3 hbB2 ?_
      refine h_p 4 hbB2 ?_
      refine h_p 5 hbB2 ?_
      refine h_p 6 hbB2 ?_
      refine h_p 7 hbB2 ?_
      refine h_p 8 hbB2 ?_
      refine h_p 9 hbB2 ?_
      refine h_one 10 ?_
      have szq8 := hbB2.size
      refine s_storeI (wn rfl) rfl rfl hr (by omega) (by omega) (fun w8 hoN hgN => ?_)
      replace hbB2 := hbB2.trans (hr.below_of hgN szq8)
      have sw8 := hgN.size
      replace hr := hoN
      clear hoN
      replace hv := hv_b2.below hbB2
      replace hbx := cell_below hbx_b2 hbB2
      replace hx := hx_b2.below hbB2
      replace ho := ho_b2.below hbB2
      replace hu := hu_b2.below hbB2
      replace hcu := cell_below hcu_b2 hbB2
      refine w_nil ?_
      refine h_on ⟨hbB2, ?_⟩
      refine h_nil ?_
      refine go ?_
      refine ⟨nf ms - (q + 1), by omega, q + 1, rfl, by omega, rfl, rfl, rfl, rfl, rfl, rfl, rfl, rfl, rfl, rfl, hr, hbB2⟩
    obtain rfl : q = nf ms := by omega
    replace hbB1 := hbB1.trans (hbB2.mono hbB1.size)
    rw [symRow_laid (move_comm hm' (j := i) (by omega)) (auts_sym hm') (by omega)] at hr
    refine go ?_
    have szq9 := hbB1.size
    refine s_build1V (B := w3.heap.size) (wn rfl) rfl rfl hr.sv.one szq9 (fun tb w9 ht st hg9 _ => ?_)
    have hb9 := below_of_grownBy hg9
    have sw9 := hb9.size
    replace hv := hv.below hb9
    replace hbx := cell_below hbx hb9
    replace hx := hx.below hb9
    replace ho := ho.below hb9
    replace hu := hu.below hb9
    replace hcu := cell_below hcu hb9
    replace hr := hr.below hb9
    replace hbB1 := hbB1.trans (hb9.mono hbB1.size)
    have szq10 := hbB1.size
    refine s_appendM (wn rfl) rfl rfl rfl ho ht.rd hr (by omega) (by decide) (by simp; omega) szq10 (fun ob' w10 hoN so hgN => ?_)
    replace hbB1 := hbB1.trans (ho.below_of hgN szq10)
    have sw10 := hgN.size
    replace ho := hoN
    clear hoN
    replace hv := hv_b1.below hbB1
    replace hbx := cell_below hbx_b1 hbB1
    replace hx := hx_b1.below hbB1
    refine go ?_
    refine ⟨ms.length - (i + 1), by omega, i + 1, ob', rfl, by omega, rfl, rfl, rfl, rfl, rfl, rfl, by rw [map_take_succ (by omega)]; exact ho, hbB1⟩
  obtain rfl : i = ms.length := by omega
  rw [List.take_length] at ho
  refine go ?_
  exact end_two Try.results54 rfl rfl ⟨ob, by rw [e.2], by rw [e.1]; exact (ho.mono (by omega)).top, (hb.trans (hbB1.mono hb.size))⟩

end Go.Proofs.Ytlodnhflfijomaa

/- Contracts: coverings given, fibres; FibreOf, on both sides. -/
namespace Go.Proofs.Ytlodnhflfijomaa
open Go.Mem Go.RowKit
set_option linter.unusedVariables false
end Go.Proofs.Ytlodnhflfijomaa
