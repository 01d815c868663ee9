/- Texts laid together: F22 F23. -/
import Derived.Test.YtmfegkjjfmmoaaaFD
import Derived.Test.YtmfegkjjfmmoaaaPC
import Derived.Test.YtmfegkjjfmmoaaaWC
import Derived.Test.YtmfegkjjfmmoaaaFE
/- Contracts: StandardAutomorphisms, SymmetryType, on both sides. -/
namespace Go.Proofs.Ytmfegkjjfmmoaaa
open Go.Mem Go.RowKit
set_option linter.unusedVariables false


theorem l01Own_any (v : Value) (xs : List Int) (w : World) (hv : IL w v xs) (hl : xs.length ≤ 1000000) :
    Ret Try.prog 63 #[v] w fun r w' => OI w' w.heap.size 2 r xs ∧ Below w.heap.size w w' := by
  refine enter1 6 Try.func63 rfl Try.ntmps63 rfl (fun fr => ?_)
  refine go ?_
  refine s_build0 (B := w.heap.size) (wn rfl) rfl (Nat.le_refl _) (fun ob w1 ho so hg1 _ => ?_)
  have hb1 := below_of_grownBy hg1
  have hv := hv.below hb1
  have h1 := hb1.size
  refine go ?_
  refine s_appendI (wn rfl) rfl rfl rfl ho hv (by simp; omega) h1 (fun ob' w2 ho2 so2 hg2 _ => ?_)
  have hb2 := hb1.trans (ho.below_of hg2 h1)
  refine go ?_
  exact end_one Try.results63 rfl ⟨by simpa using ho2, hb2⟩

theorem l01Index_any (v : Value) (xs : List Int) (a : Int) (w : World) (hv : IL w v xs) :
    Ret Try.prog 68 #[v, .int .i64 a] w fun r w' => r = .int .i64 (idxOf xs a) ∧ w = w' := by
  have sv := hv.sv
  have scap := sv.le
  refine enter2 19 Try.func68 rfl Try.ntmps68 rfl (fun fr => ?_)
  refine go ?_
  refine w_loop (fun k fr w' => ∃ (i : Nat), k = xs.length - i ∧ i ≤ xs.length ∧ fr 0 = v ∧ fr 1 = .int .i64 a ∧ fr 5 = .int .i64 i ∧ (∀ j : Nat, j < i → gi xs j ≠ a) ∧ w = w') xs.length
    ⟨0, rfl, Nat.zero_le _, rfl, rfl, rfl, fun j hj => by omega, rfl⟩ ?_
  rintro k fr _ ⟨i, rfl, hi, f0, f1, f5, hall, rfl⟩
  refine know (t := 0) f0 ?_; refine know (t := 1) f1 ?_; refine know (t := 5) f5 ?_
  refine go ?_
  refine cond_dec rfl (fun hlt => ?_) (fun hge => ?_)
  · refine go ?_
    refine cond_dec rfl (fun he => ?_) (fun hne => ?_)
    · refine go ?_
      exact end_one Try.results68 rfl ⟨by rw [idxOf_hit (by omega) he hall], rfl⟩
    · refine go ?_
      exact ⟨xs.length - (i + 1), by omega, i + 1, rfl, by omega, rfl, rfl, rfl, fun j hj => by by_cases hji : j = i; (subst hji; exact hne); exact hall j (by omega), rfl⟩
  · obtain rfl : i = xs.length := by omega
    refine go ?_
    exact end_one Try.results68 rfl ⟨by rw [idxOf_none hall], rfl⟩

set_option maxHeartbeats 8000000 in
set_option maxRecDepth 100000 in
theorem specStandardAutomorphisms_any (v : Value) (ms : List (List Int)) (w : World) (hv : RL w v ms) :
    Ret Try.prog 24 #[.agg #[v]] w fun r w' => ∃ x, r = .tuple #[x, .int .i64 (stdAC ms)] ∧ OM w' w.heap.size w'.heap.size 26 2 x (stdA ms) ∧ Below w.heap.size w w' := by
  have shv := hv.sv
  have hb := Below.refl w.heap.size w
  refine enter1 40 Try.func24 rfl Try.ntmps24 rfl (fun fr => ?_)
  refine go ?_
  refine s_box (wn rfl) rfl rfl (agg_cells shv) (fun w1 hbx _ hp hg => ?_)
  have hb1 := below_of_grownBy hg
  have sw1 := hb1.size
  replace hv := hv.below hb1
  replace hb := hb.trans (hb1.mono hb.size)
  clear hg hp hb1
  generalize (⟨w.heap.size, 0, none⟩ : Addr) = p at *
  refine go ?_
  refine s_call1 (wn rfl) rfl rfl (l02Is_any _ _ _ hv) ?_
  rintro _ w2 ⟨rfl, hb2⟩
  have sw2 := hb2.size
  replace hv := hv.below hb2
  replace hbx := cell_below hbx hb2
  replace hb := hb.trans (hb2.mono hb.size)
  refine splitb (decide (IsMan ms)) (fun hm => ?_) (fun hm => ?_)
  rotate_left
  · have hm := of_decide_eq_false hm
    have e := stdA_1 hm
    refine go ?_
    exact end_two Try.results24 rfl rfl ⟨.slice none 0 0, by rw [e.2], by rw [e.1]; exact OM.nil _ _ _ _ _, hb⟩
  have hm' := of_decide_eq_true hm
  have h1 := hm'.m0.r1
  have h5 := hm'.m0.r5
  have h2 := hm'.m0.f2
  have h4 := hm'.m0.f400
  have hs0 := hb.size
  have sbs1 := hb.size
  have hv_b1 := hv
  have hbx_b1 := hbx
  have hbB1 := Below.refl w2.heap.size w2
  refine go ?_
  have szq3 := hbB1.size
  refine s_build (B := w2.heap.size) [] (wn rfl) rfl (by simp) (by decide) rfl (by simp) szq3 (fun ob w3 ho hg3 _ => ?_)
  have hb3 := below_of_grownBy hg3
  have sw3 := hb3.size
  replace hv := hv.below hb3
  replace hbx := cell_below hbx hb3
  replace hbB1 := hbB1.trans (hb3.mono hbB1.size)
  replace ho := OM.empty (E := w3.heap.size) (U := 2) ho
  have holt := ho.ownlt
  refine go ?_
  refine s_call1 (wn rfl) rfl rfl (l06All_any _ _ _ hv hm') ?_
  rintro x w4 ⟨hx, hb4⟩
  have sw4 := hb4.size
  replace hv := hv.below hb4
  replace hbx := cell_below hbx hb4
  replace ho := ho.below hb4
  replace hbB1 := hbB1.trans (hb4.mono hbB1.size)
  have hxlt := hx.ownlt
  have szx := hb4.size
  have sx := hx.sv
  refine go ?_
  refine s_call1 (wn rfl) rfl rfl (l02Flags_any _ _ _ hv h1) ?_
  rintro _ w5 ⟨rfl, hb5⟩
  have sw5 := hb5.size
  replace hv := hv.below hb5
  replace hbx := cell_below hbx hb5
  replace ho := ho.below hb5
  replace hx := hx.below hb5
  replace hbB1 := hbB1.trans (hb5.mono hbB1.size)
  refine go ?_
  refine cond_dec rfl (fun h => ?_) (fun h => ?_)
  · have e := stdA_2 hm' (fun h' => h (by have := (regular_iff hm').2 h'; unfold auts at this; omega))
    refine go ?_
    exact end_two Try.results24 rfl rfl ⟨.slice none 0 0, by rw [e.2], by rw [e.1]; exact OM.nil _ _ _ _ _, (hb.trans (hbB1.mono hb.size))⟩
  have hreg := (regular_iff hm').1 (by unfold auts; omega)
  have e := stdA_3 hm' hreg
  have hfull := (regular_iff hm').2 hreg
  unfold auts at hfull
  replace ho := ho.top
  refine go ?_
  refine w_loop (fun k fr w' => ∃ (i : Nat) (ob : Value), k = ms.length - i ∧ i ≤ ms.length ∧ fr 1 = .pointer (some p) ∧ fr 4 = ob ∧ fr 5 = x ∧ fr 6 = .int .i64 i ∧ (OM w' w2.heap.size w'.heap.size 26 2 ob ((List.range i).map (fun k : Nat => (mapTo ms ms (gi (gr ms k) 0)).getD []))) ∧ (OM w' w3.heap.size w4.heap.size 26 2 x (covers ms ms (nf ms))) ∧ (∀ g, ob.ownBlock = some g → g < w3.heap.size ∨ w4.heap.size ≤ g) ∧ (w4.heap.size ≤ w'.heap.size) ∧ Below w2.heap.size w2 w') (ms.length)
    ⟨0, ob, rfl, Nat.zero_le _, rfl, rfl, rfl, rfl, ho, hx, fun g hg => .inl (by have := holt g hg; omega), by omega, hbB1⟩ ?_
  rintro k fr w6 ⟨i, ob, rfl, hi, f1, f4, f5, f6, ho, hx, hol, hsz, hbB1⟩
  have sw6 := hbB1.size
  have hv := hv_b1.below hbB1
  have hbx := cell_below hbx_b1 hbB1
  have sho := ho.sv
  have shx := hx.sv
  refine know (t := 1) f1 ?_; refine know (t := 4) f4 ?_; refine know (t := 5) f5 ?_; refine know (t := 6) f6 ?_
  refine go ?_
  refine cond_dec rfl (fun hlt => ?_) (fun hge => ?_)
  · have hy := hm'.syst.at (j := (i : Int)) (x := 0) (by omega) hlt (by omega)
    have hrow := hm'.syst.row (j := (i : Int)) (by omega) hlt
    have hrl := hrow.1
    have hgr := stdA_gr hm' hreg (k := i) (by omega)
    unfold auts at hgr
    obtain ⟨u, hu, hcu⟩ := hv.row (j := (i : Int)) (by omega) hlt
    have su := hu.sv
    obtain ⟨q, hq, hcq⟩ := hx.row (j := gi (gr ms i) 0) hy.1 (by omega)
    have sq := hq.sv
    have hlq : (gr (covers ms ms (nf ms)) (gi (gr ms i) 0)).length ≤ 400 := by rw [mapTo_len hgr]; omega
    replace ho := ho.top
    refine go ?_
    refine s_call1 (wn rfl) rfl rfl (l01Own_any _ _ _ hq.il (by omega)) ?_
    rintro y w7 ⟨hy2, hb7⟩
    have sw7 := hb7.size
    replace hv := hv.below hb7
    replace hbx := cell_below hbx hb7
    replace ho := ho.below hb7
    replace hx := hx.below hb7
    replace hbB1 := hbB1.trans (hb7.mono hbB1.size)
    have szq8 := hbB1.size
    have sza := hb7.size
    refine s_build1V (B := w2.heap.size) (wn rfl) rfl rfl hy2.sv.one szq8 (fun tb w8 ht st hg8 _ => ?_)
    have hb8 := below_of_grownBy hg8
    have szb := hb8.size
    have sw8 := hb8.size
    replace hv := hv.below hb8
    replace hbx := cell_below hbx hb8
    replace ho := ho.below hb8
    replace hx := hx.below hb8
    replace hy2 := hy2.below hb8
    replace hbB1 := hbB1.trans (hb8.mono hbB1.size)
    have szq9 := hbB1.size
    refine s_appendM2 (wn rfl) rfl rfl rfl ho ht.rd hy2 (by omega) (by decide) (by simp; omega) szq9 (fun ob' w9 hoN so hgN hat => ?_)
    have hxN := hx.apart2 (fun g hg => (hxlt g hg).2) hgN hol
    have hol2 : ∀ g, ob'.ownBlock = some g → g < w3.heap.size ∨ w4.heap.size ≤ g := fun g hg => by rcases hat with h | h; (exact hol g (by rw [← h]; exact hg)); (rw [h] at hg; cases hg; right; omega)
    have szc := hgN.size
    replace hbB1 := hbB1.trans (ho.below_of hgN szq9)
    refine go ?_
    refine ⟨ms.length - (i + 1), by omega, i + 1, ob', rfl, by omega, rfl, rfl, rfl, rfl, by rw [std_take_succ, hgr]; exact hoN, hxN, hol2, by omega, hbB1⟩
  obtain rfl : i = ms.length := by omega
  refine go ?_
  exact end_two Try.results24 rfl rfl ⟨ob, by rw [e.2], by rw [e.1]; exact (ho.mono hs0).top, (hb.trans (hbB1.mono hb.size))⟩

set_option maxHeartbeats 8000000 in
set_option maxRecDepth 100000 in
theorem implStandardAutomorphisms_any (v : Value) (ms : List (List Int)) (w : World) (hv : RL w v ms) :
    Ret Try.prog 25 #[.agg #[v]] w fun r w' => ∃ x, r = .tuple #[x, .int .i64 (stdAC ms)] ∧ OM w' w.heap.size w'.heap.size 26 2 x (stdA ms) ∧ Below w.heap.size w w' := by
  have shv := hv.sv
  have hb := Below.refl w.heap.size w
  refine enter1 36 Try.func25 rfl Try.ntmps25 rfl (fun fr => ?_)
  refine go ?_
  refine s_box (wn rfl) rfl rfl (agg_cells shv) (fun w1 hbx _ hp hg => ?_)
  have hb1 := below_of_grownBy hg
  have sw1 := hb1.size
  replace hv := hv.below hb1
  replace hb := hb.trans (hb1.mono hb.size)
  clear hg hp hb1
  generalize (⟨w.heap.size, 0, none⟩ : Addr) = p at *
  refine go ?_
  refine s_call1 (wn rfl) rfl rfl (isManiplex_any _ _ _ hv) ?_
  rintro _ w2 ⟨rfl, hb2⟩
  have sw2 := hb2.size
  replace hv := hv.below hb2
  replace hbx := cell_below hbx hb2
  replace hb := hb.trans (hb2.mono hb.size)
  refine splitb (decide (IsMan ms)) (fun hm => ?_) (fun hm => ?_)
  rotate_left
  · have hm := of_decide_eq_false hm
    have e := stdA_1 hm
    refine go ?_
    exact end_two Try.results25 rfl rfl ⟨.slice none 0 0, by rw [e.2], by rw [e.1]; exact OM.nil _ _ _ _ _, hb⟩
  have hm' := of_decide_eq_true hm
  have h1 := hm'.m0.r1
  have h5 := hm'.m0.r5
  have h2 := hm'.m0.f2
  have h4 := hm'.m0.f400
  have hs0 := hb.size
  have hcp := labc_pos hm'
  refine go ?_
  refine s_call1 (wn rfl) rfl rfl (flagOrbits_any _ _ _ _ hv hbx hm') ?_
  rintro _ w3 ⟨lb, rfl, hx, hb3⟩
  have sw3 := hb3.size
  replace hv := hv.below hb3
  replace hbx := cell_below hbx hb3
  replace hb := hb.trans (hb3.mono hb.size)
  refine go ?_
  refine cond_dec rfl (fun h => ?_) (fun h => ?_)
  · have e := stdA_2 hm' (by omega)
    refine go ?_
    exact end_two Try.results25 rfl rfl ⟨.slice none 0 0, by rw [e.2], by rw [e.1]; exact OM.nil _ _ _ _ _, hb⟩
  have hreg : labc (nf ms) (auts ms) = 1 := by omega
  have e := stdA_3 hm' hreg
  have sbs1 := hb.size
  have hv_b1 := hv
  have hbx_b1 := hbx
  have hbB1 := Below.refl w3.heap.size w3
  refine go ?_
  refine w_loop (fun k fr w' => ∃ (i : Nat) (ob : Value), k = ms.length - i ∧ i ≤ ms.length ∧ fr 1 = .pointer (some p) ∧ fr 6 = ob ∧ fr 19 = v ∧ fr 20 = .int .i64 ms.length ∧ fr 21 = .int .i64 i ∧ (OM w' w3.heap.size w'.heap.size 26 2 ob ((List.range i).map (fun k : Nat => (mapTo ms ms (gi (gr ms k) 0)).getD []))) ∧ Below w3.heap.size w3 w') (ms.length)
    ⟨0, _, rfl, Nat.zero_le _, rfl, rfl, rfl, rfl, rfl, OM.nil _ _ _ _ _, hbB1⟩ ?_
  rintro k fr w4 ⟨i, ob, rfl, hi, f1, f6, f19, f20, f21, ho, hbB1⟩
  have sw4 := hbB1.size
  have hv := hv_b1.below hbB1
  have hbx := cell_below hbx_b1 hbB1
  have sho := ho.sv
  refine know (t := 1) f1 ?_; refine know (t := 6) f6 ?_; refine know (t := 19) f19 ?_; refine know (t := 20) f20 ?_; refine know (t := 21) f21 ?_
  refine go ?_
  refine cond_dec rfl (fun hlt => ?_) (fun hge => ?_)
  · have hy := hm'.syst.at (j := (i : Int)) (x := 0) (by omega) hlt (by omega)
    have hrow := hm'.syst.row (j := (i : Int)) (by omega) hlt
    have hrl := hrow.1
    have hgr := stdA_gr hm' hreg (k := i) (by omega)
    obtain ⟨u, hu_b1, hcu_b1⟩ := hv_b1.row (j := (i : Int)) (by omega) hlt
    have su := hu_b1.sv
    have hu := hu_b1.below hbB1
    have hcu := cell_below hcu_b1 hbB1
    refine go ?_
    refine region_hS (fun w' => Below w3.heap.size w3 w') mixed (fun w5 hb5 => ?_)
    have sw5 := hb5.size
    replace hv := hv.below hb5
    replace hbx := cell_below hbx hb5
    replace ho := ho.below hb5
    replace hu := hu.below hb5
    replace hcu := cell_below hcu hb5
    replace hbB1 := hbB1.trans (hb5.mono hbB1.size)
    refine h_p 0 hbB1 ?_
    refine h_p 1 hbB1 ?_
    refine h_p 2 hbB1 ?_
    refine h_p 3 hbB1 ?_
    refine h_p 4 hbB1 ?_
    refine h_p 5 hbB1 ?_
    replace ho := ho.top
    refine h_one 6 ?_
    refine s_call3 (wn rfl) rfl rfl rfl rfl (coveringTo_any _ _ _ _ (gi (gr ms i) 0) _ hv hv hm' hm' hy) ?_
    rintro y w6 ⟨hy2, hb6⟩
    have sw6 := hb6.size
    replace hv := hv.below hb6
    replace hbx := cell_below hbx hb6
    replace ho := ho.below hb6
    replace hu := hu.below hb6
    replace hcu := cell_below hcu hb6
    replace hbB1 := hbB1.trans (hb6.mono hbB1.size)
    rw [mapT_self] at hy2
    replace hy2 := hy2.oi
    refine w_nil ?_
    refine h_on ⟨hbB1, ?_⟩
    refine h_one 7 ?_
    have szq7 := hbB1.size
    refine s_build1V (B := w3.heap.size) (wn rfl) rfl rfl hy2.sv.one szq7 (fun tb w7 ht st hg7 _ => ?_)
    have hb7 := below_of_grownBy hg7
    have sw7 := hb7.size
    replace hv := hv.below hb7
    replace hbx := cell_below hbx hb7
    replace ho := ho.below hb7
    replace hu := hu.below hb7
    replace hcu := cell_below hcu hb7
    replace hy2 := hy2.below hb7
    replace hbB1 := hbB1.trans (hb7.mono hbB1.size)
    have szq8 := hbB1.size
    refine w_nil ?_
    refine h_on ⟨hbB1, ?_⟩
    refine h_one 8 ?_
    refine s_appendM (wn rfl) rfl rfl rfl ho ht.rd hy2 (by omega) (by decide) (by simp; omega) szq8 (fun ob' w8 hoN so hgN => ?_)
    replace hbB1 := hbB1.trans (ho.below_of hgN szq8)
    have sw8 := hgN.size
    replace ho := hoN
    clear hoN
    replace hv := hv_b1.below hbB1
    replace hbx := cell_below hbx_b1 hbB1
    replace hu := hu_b1.below hbB1
    replace hcu := cell_below hcu_b1 hbB1
    refine w_nil ?_
    refine h_on ⟨hbB1, ?_⟩
    refine h_p 9 hbB1 ?_
    refine h_nil ?_
    refine go ?_
    refine ⟨ms.length - (i + 1), by omega, i + 1, ob', rfl, by omega, rfl, rfl, rfl, rfl, rfl, by rw [std_take_succ]; exact ho, hbB1⟩
  obtain rfl : i = ms.length := by omega
  refine go ?_
  exact end_two Try.results25 rfl rfl ⟨ob, by rw [e.2], by rw [e.1]; exact (ho.mono (by omega)).top, (hb.trans (hbB1.mono hb.size))⟩

theorem move_comm {ms : List (List Int)} (hm : IsMan ms) {j : Nat} (hj : j < ms.length) : Comm (nf ms) (auts ms) (gr ms j) := by
  refine ⟨(hm.syst.row (j := (j : Int)) (by omega) (by omega)).1, fun x h0 hx => hm.syst.at (j := (j : Int)) (by omega) (by omega) ⟨h0, hx⟩, fun p hp x h0 hx => ?_⟩
  exact (((mem_auts hm).1 hp).mv j hj x h0 hx).symm
theorem map_take_succ {g : List Int → List Int} {ms : List (List Int)} {i : Nat} (h : i < ms.length) : (ms.take (i + 1)).map g = (ms.take i).map g ++ [g (gr ms i)] := by
  rw [List.take_succ_eq_append_getElem h, List.map_append]
  simp [gr, List.getD, h]

set_option maxHeartbeats 8000000 in
set_option maxRecDepth 100000 in
theorem specSymmetryType_any (v : Value) (ms : List (List Int)) (w : World) (hv : RL w v ms) :
    Ret Try.prog 29 #[.agg #[v]] w fun r w' => ∃ x, r = .tuple #[x, .int .i64 (manC ms)] ∧ OM w' w.heap.size w'.heap.size 26 2 x (symT ms) ∧ Below w.heap.size w w' := by
  have shv := hv.sv
  have hb := Below.refl w.heap.size w
  refine enter1 50 Try.func29 rfl Try.ntmps29 rfl (fun fr => ?_)
  refine go ?_
  refine s_box (wn rfl) rfl rfl (agg_cells shv) (fun w1 hbx _ hp hg => ?_)
  have hb1 := below_of_grownBy hg
  have sw1 := hb1.size
  replace hv := hv.below hb1
  replace hb := hb.trans (hb1.mono hb.size)
  clear hg hp hb1
  generalize (⟨w.heap.size, 0, none⟩ : Addr) = p at *
  refine go ?_
  refine s_call1 (wn rfl) rfl rfl (l02Is_any _ _ _ hv) ?_
  rintro _ w2 ⟨rfl, hb2⟩
  have sw2 := hb2.size
  replace hv := hv.below hb2
  replace hbx := cell_below hbx hb2
  replace hb := hb.trans (hb2.mono hb.size)
  refine splitb (decide (IsMan ms)) (fun hm => ?_) (fun hm => ?_)
  rotate_left
  · have hm := of_decide_eq_false hm
    have e := And.intro (symT_no hm) (manC_no hm)
    refine go ?_
    exact end_two Try.results29 rfl rfl ⟨.slice none 0 0, by rw [e.2], by rw [e.1]; exact OM.nil _ _ _ _ _, hb⟩
  have hm' := of_decide_eq_true hm
  have h1 := hm'.m0.r1
  have h5 := hm'.m0.r5
  have h2 := hm'.m0.f2
  have h4 := hm'.m0.f400
  have hL := labs_all (auts_sym hm') (by omega)
  have hc0 := hL.c0
  have hll := hL.len
  have hgre := gre_labs (auts_sym hm') (by omega)
  have hmem := hL.mem
  have hs0 := hb.size
  have e := And.intro (symT_yes hm') (manC_yes hm')
  refine go ?_
  refine s_call1 (wn rfl) rfl rfl (l06Orbits_any _ _ _ hv hm') ?_
  rintro lb w3 ⟨hx, hb3⟩
  have sw3 := hb3.size
  replace hv := hv.below hb3
  replace hbx := cell_below hbx hb3
  replace hb := hb.trans (hb3.mono hb.size)
  have sbs1 := hb.size
  have hv_b1 := hv
  have hbx_b1 := hbx
  have hx_b1 := hx
  have hbB1 := Below.refl w3.heap.size w3
  refine go ?_
  have szq4 := hbB1.size
  refine s_build (B := w3.heap.size) [] (wn rfl) rfl (by simp) (by decide) rfl (by simp) szq4 (fun ob w4 ho hg4 _ => ?_)
  have hb4 := below_of_grownBy hg4
  have sw4 := hb4.size
  replace hv := hv.below hb4
  replace hbx := cell_below hbx hb4
  replace hx := hx.below hb4
  replace hbB1 := hbB1.trans (hb4.mono hbB1.size)
  replace ho := OM.empty (E := w4.heap.size) (U := 2) ho
  refine go ?_
  refine w_loop (fun k fr w' => ∃ (i : Nat) (ob : Value), k = ms.length - i ∧ i ≤ ms.length ∧ fr 1 = .pointer (some p) ∧ fr 4 = lb ∧ fr 5 = ob ∧ fr 6 = .int .i64 i ∧ (OM w' w3.heap.size w'.heap.size 26 2 ob ((ms.take i).map (symRow (labs (nf ms) (auts ms)) (labc (nf ms) (auts ms)).toNat))) ∧ Below w3.heap.size w3 w') (ms.length)
    ⟨0, ob, rfl, Nat.zero_le _, rfl, rfl, rfl, rfl, ho.top, hbB1⟩ ?_
  rintro k fr w5 ⟨i, ob, rfl, hi, f1, f4, f5, f6, ho, hbB1⟩
  have sw5 := hbB1.size
  have hv := hv_b1.below hbB1
  have hbx := cell_below hbx_b1 hbB1
  have hx := hx_b1.below hbB1
  have sho := ho.sv
  refine know (t := 1) f1 ?_; refine know (t := 4) f4 ?_; refine know (t := 5) f5 ?_; refine know (t := 6) f6 ?_
  refine go ?_
  refine cond_dec rfl (fun hlt => ?_) (fun hge => ?_)
  · replace ho := ho.top
    have hrow := hm'.syst.row (j := (i : Int)) (by omega) hlt
    have hrl := hrow.1
    have sbs2 := hbB1.size
    have hv_b2 := hv
    have hbx_b2 := hbx
    have hx_b2 := hx
    have ho_b2 := ho
    have hbB2 := Below.refl w5.heap.size w5
    obtain ⟨u, hu_b2, hcu_b2⟩ := hv_b2.row (j := (i : Int)) (by omega) hlt
    have su := hu_b2.sv
    have hu := hu_b2.below hbB2
    have hcu := cell_below hcu_b2 hbB2
    refine go ?_
    have szq6 := hbB2.size
    refine s_build0 (B := w5.heap.size) (wn rfl) rfl szq6 (fun rb w6 hr so hg6 _ => ?_)
    have hb6 := below_of_grownBy hg6
    have sw6 := hb6.size
    replace hv := hv.below hb6
    replace hbx := cell_below hbx hb6
    replace hx := hx.below hb6
    replace ho := ho.below hb6
    replace hu := hu.below hb6
    replace hcu := cell_below hcu hb6
    replace hbB2 := hbB2.trans (hb6.mono hbB2.size)
    refine go ?_
    refine w_loop (fun k fr w' => ∃ (t : Nat) (rb : Value), k = (labc (nf ms) (auts ms)).toNat - t ∧ t ≤ (labc (nf ms) (auts ms)).toNat ∧ fr 1 = .pointer (some p) ∧ fr 4 = lb ∧ fr 5 = ob ∧ fr 6 = .int .i64 i ∧ fr 7 = rb ∧ fr 8 = .int .i64 t ∧ (OI w' w5.heap.size 2 rb ((List.range t).map fun o : Nat => gi (labs (nf ms) (auts ms)) (gi (gr ms i) (idxOf (labs (nf ms) (auts ms)) o)))) ∧ Below w5.heap.size w5 w') ((labc (nf ms) (auts ms)).toNat)
      ⟨0, rb, rfl, Nat.zero_le _, rfl, rfl, rfl, rfl, rfl, rfl, hr, hbB2⟩ ?_
    rintro k fr w7 ⟨t, rb, rfl, ht, f1, f4, f5, f6, f7, f8, hr, hbB2⟩
    have sw7 := hbB2.size
    have hv := hv_b2.below hbB2
    have hbx := cell_below hbx_b2 hbB2
    have hx := hx_b2.below hbB2
    have ho := ho_b2.below hbB2
    have hu := hu_b2.below hbB2
    have hcu := cell_below hcu_b2 hbB2
    have shr := hr.sv
    refine know (t := 1) f1 ?_; refine know (t := 4) f4 ?_; refine know (t := 5) f5 ?_; refine know (t := 6) f6 ?_; refine know (t := 7) f7 ?_; refine know (t := 8) f8 ?_
    refine go ?_
    refine s_call1 (wn rfl) rfl rfl (l02Greatest_any _ _ _ hx.il (fun x h => by have := hmem x h; omega)) ?_
    rintro _ _ ⟨rfl, rfl⟩
    rw [hgre]
    refine go ?_
    refine cond_dec rfl (fun hlt2 => ?_) (fun hge2 => ?_)
    · obtain ⟨x, hx0, _, hxn, hxe⟩ := hL.hit t (by omega) hlt2
      obtain ⟨i0, i1, i2⟩ := idxOf_mem (xs := labs (nf ms) (auts ms)) (a := (t : Int)) (by rw [← hxe]; exact gi_mem hx0 (by omega))
      have hyy := hm'.syst.at (j := (i : Int)) (x := idxOf (labs (nf ms) (auts ms)) t) (by omega) hlt (by omega)
      have sx := hx.sv
      refine go ?_
      refine region_hS (fun w' => Below w5.heap.size w5 w') mixed (fun w8 hb8 => ?_)
      have sw8 := hb8.size
      replace hv := hv.below hb8
      replace hbx := cell_below hbx hb8
      replace hx := hx.below hb8
      replace ho := ho.below hb8
      replace hu := hu.below hb8
      replace hcu := cell_below hcu hb8
      replace hr := hr.below hb8
      replace hbB2 := hbB2.trans (hb8.mono hbB2.size)
      refine h_p 0 hbB2 ?_
      refine h_p 1 hbB2 ?_
      refine h_p 2 hbB2 ?_
      refine h_p 3 hbB2 ?_
      refine h_p 4 hbB2 ?_
      refine h_p 5 hbB2 ?_
      refine h_p 6 hbB2 ?_
      refine h_p 7 hbB2 ?_
      refine h_p 8 hbB2 ?_
      refine h_one 9 ?_
      refine s_call2 (wn rfl) rfl rfl rfl (l01Index_any _ _ (t : Int) _ hx.il) ?_
      rintro _ _ ⟨rfl, rfl⟩
      refine w_nil ?_
      refine h_on ⟨hbB2, ?_⟩
      refine h_p 10 hbB2 ?_
      refine h_p 11 hbB2 ?_
      refine h_p 12 hbB2 ?_
      refine h_p 13 hbB2 ?_
      refine h_one 14 ?_
      have szq9 := hbB2.size
      refine s_build1 (B := w5.heap.size) (wn rfl) rfl rfl szq9 (fun tb w9 ht st hg9 _ => ?_)
      have hb9 := below_of_grownBy hg9
      have sw9 := hb9.size
      replace hv := hv.below hb9
      replace hbx := cell_below hbx hb9
      replace hx := hx.below hb9
      replace ho := ho.below hb9
      replace hu := hu.below hb9
      replace hcu := cell_below hcu hb9
      replace hr := hr.below hb9
      replace hbB2 := hbB2.trans (hb9.mono hbB2.size)
      have szq10 := hbB2.size
      refine w_nil ?_
      refine h_on ⟨hbB2, ?_⟩
      refine h_one 15 ?_
      refine s_appendI (wn rfl) rfl rfl rfl hr ht.il (by simp; omega) szq10 (fun rb' w10 hoN so hgN _ => ?_)
      replace hbB2 := hbB2.trans (hr.below_of hgN szq10)
      have sw10 := hgN.size
      replace hr := hoN
      clear hoN
      replace hv := hv_b2.below hbB2
      replace hbx := cell_below hbx_b2 hbB2
      replace hx := hx_b2.below hbB2
      replace ho := ho_b2.below hbB2
      replace hu := hu_b2.below hbB2
      replace hcu := cell_below hcu_b2 hbB2
      refine w_nil ?_
      refine h_on ⟨hbB2, ?_⟩
      refine h_p 16 hbB2 ?_
      refine h_nil ?_
      refine go ?_
      refine ⟨(labc (nf ms) (auts ms)).toNat - (t + 1), by omega, t + 1, rb', rfl, by omega, rfl, rfl, rfl, rfl, rfl, rfl, by simpa [List.range_succ] using hr, hbB2⟩
    obtain rfl : t = (labc (nf ms) (auts ms)).toNat := by omega
    replace hbB1 := hbB1.trans (hbB2.mono hbB1.size)
    refine go ?_
    have szq11 := hbB1.size
    refine s_build1V (B := w3.heap.size) (wn rfl) rfl rfl hr.sv.one szq11 (fun tb w11 ht st hg11 _ => ?_)
    have hb11 := below_of_grownBy hg11
    have sw11 := hb11.size
    replace hv := hv.below hb11
    replace hbx := cell_below hbx hb11
    replace hx := hx.below hb11
    replace ho := ho.below hb11
    replace hu := hu.below hb11
    replace hcu := cell_below hcu hb11
    replace hr := hr.below hb11
    replace hbB1 := hbB1.trans (hb11.mono hbB1.size)
    have szq12 := hbB1.size
    refine s_appendM (wn rfl) rfl rfl rfl ho ht.rd hr (by omega) (by decide) (by simp; omega) szq12 (fun ob' w12 hoN so hgN => ?_)
    replace hbB1 := hbB1.trans (ho.below_of hgN szq12)
    have sw12 := hgN.size
    replace ho := hoN
    clear hoN
    replace hv := hv_b1.below hbB1
    replace hbx := cell_below hbx_b1 hbB1
    replace hx := hx_b1.below hbB1
    refine go ?_
    refine ⟨ms.length - (i + 1), by omega, i + 1, ob', rfl, by omega, rfl, rfl, rfl, rfl, by rw [map_take_succ (by omega)]; exact ho, hbB1⟩
  obtain rfl : i = ms.length := by omega
  rw [List.take_length] at ho
  refine go ?_
  exact end_two Try.results29 rfl rfl ⟨ob, by rw [e.2], by rw [e.1]; exact (ho.mono (by omega)).top, (hb.trans (hbB1.mono hb.size))⟩

set_option maxHeartbeats 8000000 in
set_option maxRecDepth 100000 in
theorem implSymmetryType_any (v : Value) (ms : List (List Int)) (w : World) (hv : RL w v ms) :
    Ret Try.prog 30 #[.agg #[v]] w fun r w' => ∃ x, r = .tuple #[x, .int .i64 (manC ms)] ∧ OM w' w.heap.size w'.heap.size 26 2 x (symT ms) ∧ Below w.heap.size w w' := by
  have shv := hv.sv
  have hb := Below.refl w.heap.size w
  refine enter1 52 Try.func30 rfl Try.ntmps30 rfl (fun fr => ?_)
  refine go ?_
  refine s_box (wn rfl) rfl rfl (agg_cells shv) (fun w1 hbx _ hp hg => ?_)
  have hb1 := below_of_grownBy hg
  have sw1 := hb1.size
  replace hv := hv.below hb1
  replace hb := hb.trans (hb1.mono hb.size)
  clear hg hp hb1
  generalize (⟨w.heap.size, 0, none⟩ : Addr) = p at *
  refine go ?_
  refine s_call1 (wn rfl) rfl rfl (isManiplex_any _ _ _ hv) ?_
  rintro _ w2 ⟨rfl, hb2⟩
  have sw2 := hb2.size
  replace hv := hv.below hb2
  replace hbx := cell_below hbx hb2
  replace hb := hb.trans (hb2.mono hb.size)
  refine splitb (decide (IsMan ms)) (fun hm => ?_) (fun hm => ?_)
  rotate_left
  · have hm := of_decide_eq_false hm
    have e := And.intro (symT_no hm) (manC_no hm)
    refine go ?_
    exact end_two Try.results30 rfl rfl ⟨.slice none 0 0, by rw [e.2], by rw [e.1]; exact OM.nil _ _ _ _ _, hb⟩
  have hm' := of_decide_eq_true hm
  have h1 := hm'.m0.r1
  have h5 := hm'.m0.r5
  have h2 := hm'.m0.f2
  have h4 := hm'.m0.f400
  have hL := labs_all (auts_sym hm') (by omega)
  have hc0 := hL.c0
  have hll := hL.len
  have hgre := gre_labs (auts_sym hm') (by omega)
  have hmem := hL.mem
  have hs0 := hb.size
  have e := And.intro (symT_yes hm') (manC_yes hm')
  refine go ?_
  refine s_call1 (wn rfl) rfl rfl (flagOrbits_any _ _ _ _ hv hbx hm') ?_
  rintro _ w3 ⟨lb, rfl, hx, hb3⟩
  have sw3 := hb3.size
  replace hv := hv.below hb3
  replace hbx := cell_below hbx hb3
  replace hb := hb.trans (hb3.mono hb.size)
  have sbs1 := hb.size
  have hv_b1 := hv
  have hbx_b1 := hbx
  have hx_b1 := hx
  have hbB1 := Below.refl w3.heap.size w3
  refine go ?_
  refine w_loop (fun k fr w' => ∃ (i : Nat) (ob : Value), k = ms.length - i ∧ i ≤ ms.length ∧ fr 4 = lb ∧ fr 5 = .int .i64 (labc (nf ms) (auts ms)) ∧ fr 6 = ob ∧ fr 20 = v ∧ fr 21 = .int .i64 ms.length ∧ fr 22 = .int .i64 i ∧ (OM w' w3.heap.size w'.heap.size 26 2 ob ((ms.take i).map (symRow (labs (nf ms) (auts ms)) (labc (nf ms) (auts ms)).toNat))) ∧ Below w3.heap.size w3 w') (ms.length)
    ⟨0, _, rfl, Nat.zero_le _, rfl, rfl, rfl, rfl, rfl, rfl, OM.nil _ _ _ _ _, hbB1⟩ ?_
  rintro k fr w4 ⟨i, ob, rfl, hi, f4, f5, f6, f20, f21, f22, ho, hbB1⟩
  have sw4 := hbB1.size
  have hv := hv_b1.below hbB1
  have hbx := cell_below hbx_b1 hbB1
  have hx := hx_b1.below hbB1
  have sho := ho.sv
  refine know (t := 4) f4 ?_; refine know (t := 5) f5 ?_; refine know (t := 6) f6 ?_; refine know (t := 20) f20 ?_; refine know (t := 21) f21 ?_; refine know (t := 22) f22 ?_
  refine go ?_
  refine cond_dec rfl (fun hlt => ?_) (fun hge => ?_)
  · replace ho := ho.top
    have hrow := hm'.syst.row (j := (i : Int)) (by omega) hlt
    have hrl := hrow.1
    have sbs2 := hbB1.size
    have hv_b2 := hv
    have hbx_b2 := hbx
    have hx_b2 := hx
    have ho_b2 := ho
    have hbB2 := Below.refl w4.heap.size w4
    obtain ⟨u, hu_b2, hcu_b2⟩ := hv_b2.row (j := (i : Int)) (by omega) hlt
    have su := hu_b2.sv
    rw [hrl] at su
    have hu := hu_b2.below hbB2
    have hcu := cell_below hcu_b2 hbB2
    refine go ?_
    have szq5 := hbB2.size
    refine s_makeI (B := w4.heap.size) (wn rfl) rfl rfl rfl (by omega) (by omega) szq5 (fun rb w5 hr sohr hg5 _ => ?_)
    have hb5 := below_of_grownBy hg5
    have sw5 := hb5.size
    replace hv := hv.below hb5
    replace hbx := cell_below hbx hb5
    replace hx := hx.below hb5
    replace ho := ho.below hb5
    replace hu := hu.below hb5
    replace hcu := cell_below hcu hb5
    replace hbB2 := hbB2.trans (hb5.mono hbB2.size)
    refine go ?_
    refine w_loop (fun k fr w' => ∃ (q : Nat), k = nf ms - q ∧ q ≤ nf ms ∧ fr 4 = lb ∧ fr 5 = .int .i64 (labc (nf ms) (auts ms)) ∧ fr 6 = ob ∧ fr 20 = v ∧ fr 21 = .int .i64 ms.length ∧ fr 22 = .int .i64 i ∧ fr 9 = rb ∧ fr 28 = u ∧ fr 29 = .int .i64 (nf ms) ∧ fr 30 = .int .i64 q ∧ (OI w' w4.heap.size 2 rb (laidTo (labc (nf ms) (auts ms)).toNat (labs (nf ms) (auts ms)) (fun f : Nat => gi (labs (nf ms) (auts ms)) (gi (gr ms i) f)) q)) ∧ Below w4.heap.size w4 w') (nf ms)
      ⟨0, rfl, Nat.zero_le _, rfl, rfl, rfl, rfl, rfl, rfl, rfl, rfl, rfl, rfl, hr, hbB2⟩ ?_
    rintro k fr w6 ⟨q, rfl, hq, f4, f5, f6, f20, f21, f22, f9, f28, f29, f30, hr, hbB2⟩
    have sw6 := hbB2.size
    have hv := hv_b2.below hbB2
    have hbx := cell_below hbx_b2 hbB2
    have hx := hx_b2.below hbB2
    have ho := ho_b2.below hbB2
    have hu := hu_b2.below hbB2
    have hcu := cell_below hcu_b2 hbB2
    have shr := hr.sv
    refine know (t := 4) f4 ?_; refine know (t := 5) f5 ?_; refine know (t := 6) f6 ?_; refine know (t := 20) f20 ?_; refine know (t := 21) f21 ?_; refine know (t := 22) f22 ?_; refine know (t := 9) f9 ?_; refine know (t := 28) f28 ?_; refine know (t := 29) f29 ?_; refine know (t := 30) f30 ?_
    refine go ?_
    refine cond_dec rfl (fun hlt2 => ?_) (fun hge2 => ?_)
    · have hyy := hm'.syst.at (j := (i : Int)) (x := (q : Int)) (by omega) hlt (by omega)
      have hq1 := hL.done q (by omega) (by omega) (by omega)
      have hq2 := (hL.rng q (by omega) (by omega)).2
      have hll2 := length_laidTo (labc (nf ms) (auts ms)).toNat (labs (nf ms) (auts ms)) (fun f : Nat => gi (labs (nf ms) (auts ms)) (gi (gr ms i) f)) q
      have sx := hx.sv
      refine go ?_
      refine region_hS (fun w' => Below w4.heap.size w4 w') mixed (fun w7 hb7 => ?_)
      have sw7 := hb7.size
      replace hv := hv.below hb7
      replace hbx := cell_below hbx hb7
      replace hx := hx.below hb7
      replace ho := ho.below hb7
      replace hu := hu.below hb7
      replace hcu := cell_below hcu hb7
      replace hr := hr.below hb7
      replace hbB2 := hbB2.trans (hb7.mono hbB2.size)
      refine h_p 0 hbB2 ?_
      refine h_p 1 hbB2 ?_
      refine h_p 2 hbB2 ?_
      refine h_p 3 hbB2 ?_
      refine h_p 4 hbB2 ?_
      refine h_p 5 hbB2 ?_
      refine h_p 6 hbB2 ?_
      refine h_p 7 hbB2 ?_
      refine h_p 8 hbB2 ?_
      refine h_p 9 hbB2 ?_
      refine h_one 10 ?_
      have szq8 := hbB2.size
      refine s_storeI (wn rfl) rfl rfl hr (by omega) (by omega) (fun w8 hoN hgN => ?_)
      replace hbB2 := hbB2.trans (hr.below_of hgN szq8)
      have sw8 := hgN.size
      replace hr := hoN
      clear hoN
      replace hv := hv_b2.below hbB2
      replace hbx := cell_below hbx_b2 hbB2
      replace hx := hx_b2.below hbB2
      replace ho := ho_b2.below hbB2
      replace hu := hu_b2.below hbB2
      replace hcu := cell_below hcu_b2 hbB2
      refine w_nil ?_
      refine h_on ⟨hbB2, ?_⟩
      refine h_nil ?_
      refine go ?_
      refine ⟨nf ms - (q + 1), by omega, q + 1, rfl, by omega, rfl, rfl, rfl, rfl, rfl, rfl, rfl, rfl, rfl, rfl, hr, hbB2⟩
    obtain rfl : q = nf ms := by omega
    replace hbB1 := hbB1.trans (hbB2.mono hbB1.size)
    rw [symRow_laid (move_comm hm' (j := i) (by omega)) (auts_sym hm') (by omega)] at hr
    refine go ?_
    have szq9 := hbB1.size
    refine s_build1V (B := w3.heap.size) (wn rfl) rfl rfl hr.sv.one szq9 (fun tb w9 ht st hg9 _ => ?_)
    have hb9 := below_of_grownBy hg9
    have sw9 := hb9.size
    replace hv := hv.below hb9
    replace hbx := cell_below hbx hb9
    replace hx := hx.below hb9
    replace ho := ho.below hb9
    replace hu := hu.below hb9
    replace hcu := cell_below hcu hb9
    replace hr := hr.below hb9
    replace hbB1 := hbB1.trans (hb9.mono hbB1.size)
    have szq10 := hbB1.size
    refine s_appendM (wn rfl) rfl rfl rfl ho ht.rd hr (by omega) (by decide) (by simp; omega) szq10 (fun ob' w10 hoN so hgN => ?_)
    replace hbB1 := hbB1.trans (ho.below_of hgN szq10)
    have sw10 := hgN.size
    replace ho := hoN
    clear hoN
    replace hv := hv_b1.below hbB1
    replace hbx := cell_below hbx_b1 hbB1
    replace hx := hx_b1.below hbB1
    refine go ?_
    refine ⟨ms.length - (i + 1), by omega, i + 1, ob', rfl, by omega, rfl, rfl, rfl, rfl, rfl, rfl, by rw [map_take_succ (by omega)]; exact ho, hbB1⟩
  obtain rfl : i = ms.length := by omega
  rw [List.take_length] at ho
  refine go ?_
  exact end_two Try.results30 rfl rfl ⟨ob, by rw [e.2], by rw [e.1]; exact (ho.mono (by omega)).top, (hb.trans (hbB1.mono hb.size))⟩

end Go.Proofs.Ytmfegkjjfmmoaaa

/- Contracts: coverings given, fibres; FibreOf, on both sides. -/
namespace Go.Proofs.Ytmfegkjjfmmoaaa
open Go.Mem Go.RowKit
set_option linter.unusedVariables false


set_option maxRecDepth 100000 in
theorem l07Code_any (v : Value) (v2 : Value) (v3 : Value) (ms : List (List Int)) (ks : List (List Int)) (xs : List Int) (w : World) (hv : RL w v ms) (hv2 : RL w v2 ks) (hv3 : IL w v3 xs) :
    Ret Try.prog 71 #[.agg #[v], .agg #[v2], v3] w fun r w' => r = .int .i64 (covC ms ks xs) ∧ Below w.heap.size w w' := by
  have shv := hv.sv
  have shv2 := hv2.sv
  have shv3 := hv3.sv
  have hb := Below.refl w.heap.size w
  refine enter3 20 Try.func71 rfl Try.ntmps71 rfl (fun fr => ?_)
  refine go ?_
  refine s_box (wn rfl) rfl rfl (agg_cells shv) (fun w1 hbx _ hp hg => ?_)
  have hb1 := below_of_grownBy hg
  have sw1 := hb1.size
  replace hv := hv.below hb1
  replace hv2 := hv2.below hb1
  replace hv3 := hv3.below hb1
  replace hb := hb.trans (hb1.mono hb.size)
  clear hg hp hb1
  generalize (⟨w.heap.size, 0, none⟩ : Addr) = p at *
  refine go ?_
  refine s_box (wn rfl) rfl rfl (agg_cells shv2) (fun w2 hbx2 _ hp hg => ?_)
  have hb2 := below_of_grownBy hg
  have sw2 := hb2.size
  replace hv := hv.below hb2
  replace hv2 := hv2.below hb2
  replace hv3 := hv3.below hb2
  replace hbx := cell_below hbx hb2
  replace hb := hb.trans (hb2.mono hb.size)
  clear hg hp hb2
  generalize (⟨w1.heap.size, 0, none⟩ : Addr) = p2 at *
  refine go ?_
  refine s_call1 (wn rfl) rfl rfl (l02Is_any _ _ _ hv) ?_
  rintro _ w3 ⟨rfl, hb3⟩
  have sw3 := hb3.size
  replace hv := hv.below hb3
  replace hv2 := hv2.below hb3
  replace hv3 := hv3.below hb3
  replace hbx := cell_below hbx hb3
  replace hbx2 := cell_below hbx2 hb3
  replace hb := hb.trans (hb3.mono hb.size)
  refine splitb (decide (IsMan ms)) (fun hm => ?_) (fun hm => ?_)
  rotate_left
  · have hm := of_decide_eq_false hm
    have e := covC_1 (ms := ms) (ks := ks) (xs := xs) (fun h => hm h.1)
    refine go ?_
    exact end_one Try.results71 rfl ⟨by rw [e], hb⟩
  have hm' := of_decide_eq_true hm
  refine go ?_
  refine s_call1 (wy rfl rfl rfl rfl rfl known) rfl rfl (l02Is_any _ _ _ hv2) ?_
  rintro _ w4 ⟨rfl, hb4⟩
  have sw4 := hb4.size
  replace hv := hv.below hb4
  replace hv2 := hv2.below hb4
  replace hv3 := hv3.below hb4
  replace hbx := cell_below hbx hb4
  replace hbx2 := cell_below hbx2 hb4
  replace hb := hb.trans (hb4.mono hb.size)
  refine splitb (decide (IsMan ks)) (fun hk => ?_) (fun hk => ?_)
  rotate_left
  · have hk := of_decide_eq_false hk
    have e := covC_1 (ms := ms) (ks := ks) (xs := xs) (fun h => hk h.2)
    refine go ?_
    exact end_one Try.results71 rfl ⟨by rw [e], hb⟩
  have hk' := of_decide_eq_true hk
  refine go ?_
  refine s_call3 (wn rfl) rfl rfl rfl rfl (l07Covering_any _ _ _ _ _ _ _ hv hv2 hv3 hm' hk') ?_
  rintro _ w5 ⟨rfl, hb5⟩
  have sw5 := hb5.size
  replace hv := hv.below hb5
  replace hv2 := hv2.below hb5
  replace hv3 := hv3.below hb5
  replace hbx := cell_below hbx hb5
  replace hbx2 := cell_below hbx2 hb5
  replace hb := hb.trans (hb5.mono hb.size)
  refine splitb (decide (IsCov ms ks xs)) (fun hc => ?_) (fun hc => ?_)
  rotate_left
  · have e := covC_2 hm' hk' (of_decide_eq_false hc)
    refine go ?_
    exact end_one Try.results71 rfl ⟨by rw [e], hb⟩
  have e := covC_3 hm' hk' (of_decide_eq_true hc)
  refine go ?_
  exact end_one Try.results71 rfl ⟨by rw [e], hb⟩

set_option maxRecDepth 100000 in
theorem coveringCode_any (v : Value) (v2 : Value) (v3 : Value) (ms : List (List Int)) (ks : List (List Int)) (xs : List Int) (w : World) (hv : RL w v ms) (hv2 : RL w v2 ks) (hv3 : IL w v3 xs) :
    Ret Try.prog 74 #[.agg #[v], .agg #[v2], v3] w fun r w' => r = .int .i64 (covC ms ks xs) ∧ Below w.heap.size w w' := by
  have shv := hv.sv
  have shv2 := hv2.sv
  have shv3 := hv3.sv
  have hb := Below.refl w.heap.size w
  refine enter3 22 Try.func74 rfl Try.ntmps74 rfl (fun fr => ?_)
  refine go ?_
  refine s_box (wn rfl) rfl rfl (agg_cells shv) (fun w1 hbx _ hp hg => ?_)
  have hb1 := below_of_grownBy hg
  have sw1 := hb1.size
  replace hv := hv.below hb1
  replace hv2 := hv2.below hb1
  replace hv3 := hv3.below hb1
  replace hb := hb.trans (hb1.mono hb.size)
  clear hg hp hb1
  generalize (⟨w.heap.size, 0, none⟩ : Addr) = p at *
  refine go ?_
  refine s_box (wn rfl) rfl rfl (agg_cells shv2) (fun w2 hbx2 _ hp hg => ?_)
  have hb2 := below_of_grownBy hg
  have sw2 := hb2.size
  replace hv := hv.below hb2
  replace hv2 := hv2.below hb2
  replace hv3 := hv3.below hb2
  replace hbx := cell_below hbx hb2
  replace hb := hb.trans (hb2.mono hb.size)
  clear hg hp hb2
  generalize (⟨w1.heap.size, 0, none⟩ : Addr) = p2 at *
  refine go ?_
  refine s_call1 (wn rfl) rfl rfl (isManiplex_any _ _ _ hv) ?_
  rintro _ w3 ⟨rfl, hb3⟩
  have sw3 := hb3.size
  replace hv := hv.below hb3
  replace hv2 := hv2.below hb3
  replace hv3 := hv3.below hb3
  replace hbx := cell_below hbx hb3
  replace hbx2 := cell_below hbx2 hb3
  replace hb := hb.trans (hb3.mono hb.size)
  refine splitb (decide (IsMan ms)) (fun hm => ?_) (fun hm => ?_)
  rotate_left
  · have hm := of_decide_eq_false hm
    have e := covC_1 (ms := ms) (ks := ks) (xs := xs) (fun h => hm h.1)
    refine go ?_
    exact end_one Try.results74 rfl ⟨by rw [e], hb⟩
  have hm' := of_decide_eq_true hm
  refine go ?_
  refine s_call1 (wy rfl rfl rfl rfl rfl known) rfl rfl (isManiplex_any _ _ _ hv2) ?_
  rintro _ w4 ⟨rfl, hb4⟩
  have sw4 := hb4.size
  replace hv := hv.below hb4
  replace hv2 := hv2.below hb4
  replace hv3 := hv3.below hb4
  replace hbx := cell_below hbx hb4
  replace hbx2 := cell_below hbx2 hb4
  replace hb := hb.trans (hb4.mono hb.size)
  refine splitb (decide (IsMan ks)) (fun hk => ?_) (fun hk => ?_)
  rotate_left
  · have hk := of_decide_eq_false hk
    have e := covC_1 (ms := ms) (ks := ks) (xs := xs) (fun h => hk h.2)
    refine go ?_
    exact end_one Try.results74 rfl ⟨by rw [e], hb⟩
  have hk' := of_decide_eq_true hk
  refine go ?_
  refine s_call3 (wn rfl) rfl rfl rfl rfl (isCovering_any _ _ _ _ _ _ _ hv hv2 hv3 hm' hk') ?_
  rintro _ w5 ⟨rfl, hb5⟩
  have sw5 := hb5.size
  replace hv := hv.below hb5
  replace hv2 := hv2.below hb5
  replace hv3 := hv3.below hb5
  replace hbx := cell_below hbx hb5
  replace hbx2 := cell_below hbx2 hb5
  replace hb := hb.trans (hb5.mono hb.size)
  refine splitb (decide (IsCov ms ks xs)) (fun hc => ?_) (fun hc => ?_)
  rotate_left
  · have e := covC_2 hm' hk' (of_decide_eq_false hc)
    refine go ?_
    exact end_one Try.results74 rfl ⟨by rw [e], hb⟩
  have e := covC_3 hm' hk' (of_decide_eq_true hc)
  refine go ?_
  exact end_one Try.results74 rfl ⟨by rw [e], hb⟩

set_option maxRecDepth 100000 in
theorem l07Fibre_any (v : Value) (xs : List Int) (a : Int) (w : World) (hv : IL w v xs) (hl : xs.length ≤ 1000000) :
    Ret Try.prog 73 #[v, .int .i64 a] w fun r w' => OI w' w.heap.size 2 r (plc xs a) ∧ Below w.heap.size w w' := by
  have shv := hv.sv
  have hb := Below.refl w.heap.size w
  refine enter2 25 Try.func73 rfl Try.ntmps73 rfl (fun fr => ?_)
  have sbs1 := hb.size
  have hv_b1 := hv
  have hbB1 := Below.refl w.heap.size w
  refine go ?_
  have szq1 := hbB1.size
  refine s_build0 (B := w.heap.size) (wn rfl) rfl szq1 (fun ob w1 ho so hg1 _ => ?_)
  have hb1 := below_of_grownBy hg1
  have sw1 := hb1.size
  replace hv := hv.below hb1
  replace hbB1 := hbB1.trans (hb1.mono hbB1.size)
  refine go ?_
  refine w_loop (fun k fr w' => ∃ (i : Nat) (ob : Value), k = xs.length - i ∧ i ≤ xs.length ∧ fr 0 = v ∧ fr 1 = .int .i64 a ∧ fr 5 = ob ∧ fr 6 = .int .i64 i ∧ (OI w' w.heap.size 2 ob (plcTo xs a i)) ∧ Below w.heap.size w w') (xs.length)
    ⟨0, ob, rfl, Nat.zero_le _, rfl, rfl, rfl, rfl, ho, hbB1⟩ ?_
  rintro k fr w2 ⟨i, ob, rfl, hi, f0, f1, f5, f6, ho, hbB1⟩
  have sw2 := hbB1.size
  have hv := hv_b1.below hbB1
  have sho := ho.sv
  refine know (t := 0) f0 ?_; refine know (t := 1) f1 ?_; refine know (t := 5) f5 ?_; refine know (t := 6) f6 ?_
  refine go ?_
  refine cond_dec rfl (fun hlt => ?_) (fun hge => ?_)
  · have hpl := plcTo_le xs a i
    refine go ?_
    refine cond_dec rfl (fun he => ?_) (fun he => ?_)
    · refine go ?_
      have szq3 := hbB1.size
      refine s_build1 (B := w.heap.size) (wn rfl) rfl rfl szq3 (fun tb w3 ht st hg3 _ => ?_)
      have hb3 := below_of_grownBy hg3
      have sw3 := hb3.size
      replace hv := hv.below hb3
      replace ho := ho.below hb3
      replace hbB1 := hbB1.trans (hb3.mono hbB1.size)
      have szq4 := hbB1.size
      refine s_appendI (wn rfl) rfl rfl rfl ho ht.il (by simp; omega) szq4 (fun ob' w4 hoN so hgN _ => ?_)
      replace hbB1 := hbB1.trans (ho.below_of hgN szq4)
      have sw4 := hgN.size
      replace ho := hoN
      clear hoN
      replace hv := hv_b1.below hbB1
      refine go ?_
      refine ⟨xs.length - (i + 1), by omega, i + 1, ob', rfl, by omega, rfl, rfl, rfl, rfl, by rw [plcTo_hit he]; exact ho, hbB1⟩
    refine go ?_
    refine ⟨xs.length - (i + 1), by omega, i + 1, ob, rfl, by omega, rfl, rfl, rfl, rfl, by rw [plcTo_miss he]; exact ho, hbB1⟩
  obtain rfl : i = xs.length := by omega
  refine go ?_
  exact end_one Try.results73 rfl ⟨ho, (hb.trans (hbB1.mono hb.size))⟩

set_option maxRecDepth 100000 in
theorem placesOf_any (v : Value) (xs : List Int) (a : Int) (w : World) (hv : IL w v xs) (hl : xs.length ≤ 1000000) :
    Ret Try.prog 76 #[v, .int .i64 a] w fun r w' => OI w' w.heap.size 2 r (plc xs a) ∧ Below w.heap.size w w' := by
  have shv := hv.sv
  have hb := Below.refl w.heap.size w
  refine enter2 24 Try.func76 rfl Try.ntmps76 rfl (fun fr => ?_)
  have sbs1 := hb.size
  have hv_b1 := hv
  have hbB1 := Below.refl w.heap.size w
  refine go ?_
  refine w_loop (fun k fr w' => ∃ (i : Nat) (ob : Value), k = xs.length - i ∧ i ≤ xs.length ∧ fr 1 = .int .i64 a ∧ fr 5 = ob ∧ fr 8 = v ∧ fr 9 = .int .i64 xs.length ∧ fr 10 = .int .i64 i ∧ (OI w' w.heap.size 2 ob (plcTo xs a i)) ∧ Below w.heap.size w w') (xs.length)
    ⟨0, _, rfl, Nat.zero_le _, rfl, rfl, rfl, rfl, rfl, OI.nil _ _ _, hbB1⟩ ?_
  rintro k fr w1 ⟨i, ob, rfl, hi, f1, f5, f8, f9, f10, ho, hbB1⟩
  have sw1 := hbB1.size
  have hv := hv_b1.below hbB1
  have sho := ho.sv
  refine know (t := 1) f1 ?_; refine know (t := 5) f5 ?_; refine know (t := 8) f8 ?_; refine know (t := 9) f9 ?_; refine know (t := 10) f10 ?_
  refine go ?_
  refine cond_dec rfl (fun hlt => ?_) (fun hge => ?_)
  · have hpl := plcTo_le xs a i
    refine go ?_
    refine cond_dec rfl (fun he => ?_) (fun he => ?_)
    · refine go ?_
      have szq2 := hbB1.size
      refine s_build1 (B := w.heap.size) (wn rfl) rfl rfl szq2 (fun tb w2 ht st hg2 _ => ?_)
      have hb2 := below_of_grownBy hg2
      have sw2 := hb2.size
      replace hv := hv.below hb2
      replace ho := ho.below hb2
      replace hbB1 := hbB1.trans (hb2.mono hbB1.size)
      have szq3 := hbB1.size
      refine s_appendI (wn rfl) rfl rfl rfl ho ht.il (by simp; omega) szq3 (fun ob' w3 hoN so hgN _ => ?_)
      replace hbB1 := hbB1.trans (ho.below_of hgN szq3)
      have sw3 := hgN.size
      replace ho := hoN
      clear hoN
      replace hv := hv_b1.below hbB1
      refine go ?_
      refine ⟨xs.length - (i + 1), by omega, i + 1, ob', rfl, by omega, rfl, rfl, rfl, rfl, rfl, by rw [plcTo_hit he.symm]; exact ho, hbB1⟩
    refine go ?_
    refine ⟨xs.length - (i + 1), by omega, i + 1, ob, rfl, by omega, rfl, rfl, rfl, rfl, rfl, by rw [plcTo_miss (fun e => he e.symm)]; exact ho, hbB1⟩
  obtain rfl : i = xs.length := by omega
  refine go ?_
  exact end_one Try.results76 rfl ⟨ho, (hb.trans (hbB1.mono hb.size))⟩

set_option maxRecDepth 100000 in
theorem specFibreOf_any (v : Value) (v2 : Value) (v3 : Value) (ms : List (List Int)) (ks : List (List Int)) (xs : List Int) (fl : Int) (w : World) (hv : RL w v ms) (hv2 : RL w v2 ks) (hv3 : IL w v3 xs) :
    Ret Try.prog 33 #[.agg #[v], .agg #[v2], v3, .int .i64 fl] w fun r w' => ∃ x, r = .tuple #[x, .int .i64 (fibC ms ks xs fl)] ∧ OI w' w.heap.size 2 x (fib ms ks xs fl) ∧ Below w.heap.size w w' := by
  have shv := hv.sv
  have shv2 := hv2.sv
  have shv3 := hv3.sv
  have hb := Below.refl w.heap.size w
  refine enter4 29 Try.func33 rfl Try.ntmps33 rfl (fun fr => ?_)
  refine go ?_
  refine s_box (wn rfl) rfl rfl (agg_cells shv) (fun w1 hbx _ hp hg => ?_)
  have hb1 := below_of_grownBy hg
  have sw1 := hb1.size
  replace hv := hv.below hb1
  replace hv2 := hv2.below hb1
  replace hv3 := hv3.below hb1
  replace hb := hb.trans (hb1.mono hb.size)
  clear hg hp hb1
  generalize (⟨w.heap.size, 0, none⟩ : Addr) = p at *
  refine go ?_
  refine s_box (wn rfl) rfl rfl (agg_cells shv2) (fun w2 hbx2 _ hp hg => ?_)
  have hb2 := below_of_grownBy hg
  have sw2 := hb2.size
  replace hv := hv.below hb2
  replace hv2 := hv2.below hb2
  replace hv3 := hv3.below hb2
  replace hbx := cell_below hbx hb2
  replace hb := hb.trans (hb2.mono hb.size)
  clear hg hp hb2
  generalize (⟨w1.heap.size, 0, none⟩ : Addr) = p2 at *
  refine go ?_
  refine s_call3 (wn rfl) rfl rfl rfl rfl (l07Code_any _ _ _ _ _ _ _ hv hv2 hv3) ?_
  rintro _ w3 ⟨rfl, hb3⟩
  have sw3 := hb3.size
  replace hv := hv.below hb3
  replace hv2 := hv2.below hb3
  replace hv3 := hv3.below hb3
  replace hbx := cell_below hbx hb3
  replace hbx2 := cell_below hbx2 hb3
  replace hb := hb.trans (hb3.mono hb.size)
  have h20 : (2 : Int) ≠ 0 := by decide
  by_cases h : covC ms ks xs = 0
  rotate_left
  · have h' : ¬ (covC ms ks xs = 0) := h
    have h2 : covC ms ks xs ≠ 0 := h
    have e := fib_1 (f := fl) h
    refine go ?_
    exact end_two Try.results33 rfl rfl ⟨.slice none 0 0, by rw [e.2], by rw [e.1]; exact OI.nil _ _ _, hb⟩
  obtain ⟨hm, hk, hc⟩ := covC_0 h
  have h' : ¬ (covC ms ks xs ≠ 0) := fun h' => h' h
  have k1 := hk.m0.r1
  have k4 := hk.m0.f400
  have h4 := hm.m0.f400
  have hl := hc.1
  refine go ?_
  refine s_call2 (wy rfl rfl rfl rfl rfl known) rfl rfl rfl (l02Flag_any _ _ fl _ hv2 k1 k4) ?_
  rintro _ w4 ⟨rfl, hb4⟩
  have sw4 := hb4.size
  replace hv := hv.below hb4
  replace hv2 := hv2.below hb4
  replace hv3 := hv3.below hb4
  replace hbx := cell_below hbx hb4
  replace hbx2 := cell_below hbx2 hb4
  replace hb := hb.trans (hb4.mono hb.size)
  refine splitb (decide (0 ≤ fl ∧ fl < nf ks)) (fun hf => ?_) (fun hf => ?_)
  rotate_left
  · have e := fib_2 h (of_decide_eq_false hf)
    refine go ?_
    exact end_two Try.results33 rfl rfl ⟨.slice none 0 0, by rw [e.2], by rw [e.1]; exact OI.nil _ _ _, hb⟩
  have e := fib_3 h (of_decide_eq_true hf)
  have hs0 := hb.size
  refine go ?_
  refine s_call2 (wn rfl) rfl rfl rfl (l07Fibre_any _ _ fl _ hv3 (by omega)) ?_
  rintro x w5 ⟨hx, hb5⟩
  have sw5 := hb5.size
  replace hv := hv.below hb5
  replace hv2 := hv2.below hb5
  replace hv3 := hv3.below hb5
  replace hbx := cell_below hbx hb5
  replace hbx2 := cell_below hbx2 hb5
  replace hb := hb.trans (hb5.mono hb.size)
  refine go ?_
  exact end_two Try.results33 rfl rfl ⟨x, by rw [e.2], by rw [e.1]; exact hx.mono (by omega), hb⟩

set_option maxRecDepth 100000 in
theorem implFibreOf_any (v : Value) (v2 : Value) (v3 : Value) (ms : List (List Int)) (ks : List (List Int)) (xs : List Int) (fl : Int) (w : World) (hv : RL w v ms) (hv2 : RL w v2 ks) (hv3 : IL w v3 xs) :
    Ret Try.prog 35 #[.agg #[v], .agg #[v2], v3, .int .i64 fl] w fun r w' => ∃ x, r = .tuple #[x, .int .i64 (fibC ms ks xs fl)] ∧ OI w' w.heap.size 2 x (fib ms ks xs fl) ∧ Below w.heap.size w w' := by
  have shv := hv.sv
  have shv2 := hv2.sv
  have shv3 := hv3.sv
  have hb := Below.refl w.heap.size w
  refine enter4 26 Try.func35 rfl Try.ntmps35 rfl (fun fr => ?_)
  refine go ?_
  refine s_box (wn rfl) rfl rfl (agg_cells shv) (fun w1 hbx _ hp hg => ?_)
  have hb1 := below_of_grownBy hg
  have sw1 := hb1.size
  replace hv := hv.below hb1
  replace hv2 := hv2.below hb1
  replace hv3 := hv3.below hb1
  replace hb := hb.trans (hb1.mono hb.size)
  clear hg hp hb1
  generalize (⟨w.heap.size, 0, none⟩ : Addr) = p at *
  refine go ?_
  refine s_box (wn rfl) rfl rfl (agg_cells shv2) (fun w2 hbx2 _ hp hg => ?_)
  have hb2 := below_of_grownBy hg
  have sw2 := hb2.size
  replace hv := hv.below hb2
  replace hv2 := hv2.below hb2
  replace hv3 := hv3.below hb2
  replace hbx := cell_below hbx hb2
  replace hb := hb.trans (hb2.mono hb.size)
  clear hg hp hb2
  generalize (⟨w1.heap.size, 0, none⟩ : Addr) = p2 at *
  refine go ?_
  refine s_call3 (wn rfl) rfl rfl rfl rfl (coveringCode_any _ _ _ _ _ _ _ hv hv2 hv3) ?_
  rintro _ w3 ⟨rfl, hb3⟩
  have sw3 := hb3.size
  replace hv := hv.below hb3
  replace hv2 := hv2.below hb3
  replace hv3 := hv3.below hb3
  replace hbx := cell_below hbx hb3
  replace hbx2 := cell_below hbx2 hb3
  replace hb := hb.trans (hb3.mono hb.size)
  by_cases h : covC ms ks xs = 0
  rotate_left
  · have h2 : covC ms ks xs ≠ 0 := h
    have e := fib_1 (f := fl) h
    refine go ?_
    exact end_two Try.results35 rfl rfl ⟨.slice none 0 0, by rw [e.2], by rw [e.1]; exact OI.nil _ _ _, hb⟩
  obtain ⟨hm, hk, hc⟩ := covC_0 h
  have h' : ¬ (covC ms ks xs ≠ 0) := fun h' => h' h
  have k1 := hk.m0.r1
  have k4 := hk.m0.f400
  have h4 := hm.m0.f400
  have hl := hc.1
  refine go ?_
  refine s_call2 (wn rfl) rfl rfl rfl (hasFlag_any _ _ _ fl _ hv2 hbx2 k1 k4) ?_
  rintro _ _ ⟨rfl, rfl⟩
  refine splitb (decide (0 ≤ fl ∧ fl < nf ks)) (fun hf => ?_) (fun hf => ?_)
  rotate_left
  · have e := fib_2 h (of_decide_eq_false hf)
    refine go ?_
    exact end_two Try.results35 rfl rfl ⟨.slice none 0 0, by rw [e.2], by rw [e.1]; exact OI.nil _ _ _, hb⟩
  have e := fib_3 h (of_decide_eq_true hf)
  have hs0 := hb.size
  refine go ?_
  refine s_call2 (wn rfl) rfl rfl rfl (placesOf_any _ _ fl _ hv3 (by omega)) ?_
  rintro x w4 ⟨hx, hb4⟩
  have sw4 := hb4.size
  replace hv := hv.below hb4
  replace hv2 := hv2.below hb4
  replace hv3 := hv3.below hb4
  replace hbx := cell_below hbx hb4
  replace hbx2 := cell_below hbx2 hb4
  replace hb := hb.trans (hb4.mono hb.size)
  refine go ?_
  exact end_two Try.results35 rfl rfl ⟨x, by rw [e.2], by rw [e.1]; exact hx.mono (by omega), hb⟩

end Go.Proofs.Ytmfegkjjfmmoaaa
