/- Texts laid together: F22 F23. -/
import Derived.Test.YtablpijnjkncfaaGreatFD
import Derived.Test.YtablpijnjkncfaaGreatPC
import Derived.Test.YtablpijnjkncfaaGreatWC
import Derived.Test.YtablpijnjkncfaaGreatFE
/- Contracts: StandardAutomorphisms, SymmetryType, on both sides. -/
namespace Go.Proofs.YtablpijnjkncfaaGreat
open Go.Mem Go.RowKit
set_option linter.unusedVariables false


theorem l01Own_any (v : Value) (xs : List Int) (w : World) (hv : IL w v xs) (hl : xs.length ≤ 1000000) :
    Ret Tryz.prog 34 #[v] w fun r w' => OI w' w.heap.size 2 r xs ∧ Below w.heap.size w w' := by
  refine enter1 6 Tryz.func34 rfl Tryz.ntmps34 rfl (fun fr => ?_)
  refine go ?_
  refine s_build0 (B := w.heap.size) (wn rfl) rfl (Nat.le_refl _) (fun ob w1 ho so hg1 _ => ?_)
  have hb1 := below_of_grownBy hg1
  have hv := hv.below hb1
  have h1 := hb1.size
  refine go ?_
  refine s_appendI (wn rfl) rfl rfl rfl ho hv (by simp; omega) h1 (fun ob' w2 ho2 so2 hg2 _ => ?_)
  have hb2 := hb1.trans (ho.below_of hg2 h1)
  refine go ?_
  exact end_one Tryz.results34 rfl ⟨by simpa using ho2, hb2⟩

theorem l01Index_any (v : Value) (xs : List Int) (a : Int) (w : World) (hv : IL w v xs) :
    Ret Tryz.prog 84 #[v, .int .i64 a] w fun r w' => r = .int .i64 (idxOf xs a) ∧ w = w' := by
  have sv := hv.sv
  have scap := sv.le
  refine enter2 19 Tryz.func84 rfl Tryz.ntmps84 rfl (fun fr => ?_)
  refine go ?_
  refine w_loop (fun k fr w' => ∃ (i : Nat), k = xs.length - i ∧ i ≤ xs.length ∧ fr 0 = v ∧ fr 1 = .int .i64 a ∧ fr 5 = .int .i64 i ∧ (∀ j : Nat, j < i → gi xs j ≠ a) ∧ w = w') xs.length
    ⟨0, rfl, Nat.zero_le _, rfl, rfl, rfl, fun j hj => by omega, rfl⟩ ?_
  rintro k fr _ ⟨i, rfl, hi, f0, f1, f5, hall, rfl⟩
  refine know (t := 0) f0 ?_; refine know (t := 1) f1 ?_; refine know (t := 5) f5 ?_
  refine go ?_
  refine cond_dec rfl (fun hlt => ?_) (fun hge => ?_)
  · refine go ?_
    refine cond_dec rfl (fun he => ?_) (fun hne => ?_)
    · refine go ?_
      exact end_one Tryz.results84 rfl ⟨by rw [idxOf_hit (by omega) he hall], rfl⟩
    · refine go ?_
      exact ⟨xs.length - (i + 1), by omega, i + 1, rfl, by omega, rfl, rfl, rfl, fun j hj => by by_cases hji : j = i; (subst hji; exact hne); exact hall j (by omega), rfl⟩
  · obtain rfl : i = xs.length := by omega
    refine go ?_
    exact end_one Tryz.results84 rfl ⟨by rw [idxOf_none hall], rfl⟩

theorem move_comm {ms : List (List Int)} (hm : IsMan ms) {j : Nat} (hj : j < ms.length) : Comm (nf ms) (auts ms) (gr ms j) := by
  refine ⟨(hm.syst.row (j := (j : Int)) (by omega) (by omega)).1, fun x h0 hx => hm.syst.at (j := (j : Int)) (by omega) (by omega) ⟨h0, hx⟩, fun p hp x h0 hx => ?_⟩
  exact (((mem_auts hm).1 hp).mv j hj x h0 hx).symm
theorem map_take_succ {g : List Int → List Int} {ms : List (List Int)} {i : Nat} (h : i < ms.length) : (ms.take (i + 1)).map g = (ms.take i).map g ++ [g (gr ms i)] := by
  rw [List.take_succ_eq_append_getElem h, List.map_append]
  simp [gr, List.getD, h]

end Go.Proofs.YtablpijnjkncfaaGreat

/- Contracts: coverings given, fibres; FibreOf, on both sides. -/
namespace Go.Proofs.YtablpijnjkncfaaGreat
open Go.Mem Go.RowKit
set_option linter.unusedVariables false
set_option maxRecDepth 100000 in
theorem coveringCode_any (v : Value) (v2 : Value) (v3 : Value) (ms : List (List Int)) (ks : List (List Int)) (xs : List Int) (w : World) (hv : RL w v ms) (hv2 : RL w v2 ks) (hv3 : IL w v3 xs) :
    Ret Tryz.prog 49 #[.agg #[v], .agg #[v2], v3] w fun r w' => r = .int .i64 (covC ms ks xs) ∧ Below w.heap.size w w' := by
  have shv := hv.sv
  have shv2 := hv2.sv
  have shv3 := hv3.sv
  have hb := Below.refl w.heap.size w
  refine enter3 22 Tryz.func49 rfl Tryz.ntmps49 rfl (fun fr => ?_)
  refine go ?_
  refine s_box (wn rfl) rfl rfl (agg_cells shv) (fun w1 hbx _ hp hg => ?_)
  have hb1 := below_of_grownBy hg
  have sw1 := hb1.size
  replace hv := hv.below hb1
  replace hv2 := hv2.below hb1
  replace hv3 := hv3.below hb1
  replace hb := hb.trans (hb1.mono hb.size)
  clear hg hp hb1
  generalize (⟨w.heap.size, 0, none⟩ : Addr) = p at *
  refine go ?_
  refine s_box (wn rfl) rfl rfl (agg_cells shv2) (fun w2 hbx2 _ hp hg => ?_)
  have hb2 := below_of_grownBy hg
  have sw2 := hb2.size
  replace hv := hv.below hb2
  replace hv2 := hv2.below hb2
  replace hv3 := hv3.below hb2
  replace hbx := cell_below hbx hb2
  replace hb := hb.trans (hb2.mono hb.size)
  clear hg hp hb2
  generalize (⟨w1.heap.size, 0, none⟩ : Addr) = p2 at *
  refine go ?_
  refine s_call1 (wn rfl) rfl rfl (isManiplex_any _ _ _ hv) ?_
  rintro _ w3 ⟨rfl, hb3⟩
  have sw3 := hb3.size
  replace hv := hv.below hb3
  replace hv2 := hv2.below hb3
  replace hv3 := hv3.below hb3
  replace hbx := cell_below hbx hb3
  replace hbx2 := cell_below hbx2 hb3
  replace hb := hb.trans (hb3.mono hb.size)
  refine splitb (decide (IsMan ms)) (fun hm => ?_) (fun hm => ?_)
  rotate_left
  · have hm := of_decide_eq_false hm
    have e := covC_1 (ms := ms) (ks := ks) (xs := xs) (fun h => hm h.1)
    refine go ?_
    exact end_one Tryz.results49 rfl ⟨by rw [e], hb⟩
  have hm' := of_decide_eq_true hm
  refine go ?_
  refine s_call1 (wy rfl rfl rfl rfl rfl known) rfl rfl (isManiplex_any _ _ _ hv2) ?_
  rintro _ w4 ⟨rfl, hb4⟩
  have sw4 := hb4.size
  replace hv := hv.below hb4
  replace hv2 := hv2.below hb4
  replace hv3 := hv3.below hb4
  replace hbx := cell_below hbx hb4
  replace hbx2 := cell_below hbx2 hb4
  replace hb := hb.trans (hb4.mono hb.size)
  refine splitb (decide (IsMan ks)) (fun hk => ?_) (fun hk => ?_)
  rotate_left
  · have hk := of_decide_eq_false hk
    have e := covC_1 (ms := ms) (ks := ks) (xs := xs) (fun h => hk h.2)
    refine go ?_
    exact end_one Tryz.results49 rfl ⟨by rw [e], hb⟩
  have hk' := of_decide_eq_true hk
  refine go ?_
  refine s_call3 (wn rfl) rfl rfl rfl rfl (isCovering_any _ _ _ _ _ _ _ hv hv2 hv3 hm' hk') ?_
  rintro _ w5 ⟨rfl, hb5⟩
  have sw5 := hb5.size
  replace hv := hv.below hb5
  replace hv2 := hv2.below hb5
  replace hv3 := hv3.below hb5
  replace hbx := cell_below hbx hb5
  replace hbx2 := cell_below hbx2 hb5
  replace hb := hb.trans (hb5.mono hb.size)
  refine splitb (decide (IsCov ms ks xs)) (fun hc => ?_) (fun hc => ?_)
  rotate_left
  · have e := covC_2 hm' hk' (of_decide_eq_false hc)
    refine go ?_
    exact end_one Tryz.results49 rfl ⟨by rw [e], hb⟩
  have e := covC_3 hm' hk' (of_decide_eq_true hc)
  refine go ?_
  exact end_one Tryz.results49 rfl ⟨by rw [e], hb⟩

set_option maxRecDepth 100000 in
theorem placesOf_any (v : Value) (xs : List Int) (a : Int) (w : World) (hv : IL w v xs) (hl : xs.length ≤ 1000000) :
    Ret Tryz.prog 54 #[v, .int .i64 a] w fun r w' => OI w' w.heap.size 2 r (plc xs a) ∧ Below w.heap.size w w' := by
  have shv := hv.sv
  have hb := Below.refl w.heap.size w
  refine enter2 24 Tryz.func54 rfl Tryz.ntmps54 rfl (fun fr => ?_)
  have sbs1 := hb.size
  have hv_b1 := hv
  have hbB1 := Below.refl w.heap.size w
  refine go ?_
  refine w_loop (fun k fr w' => ∃ (i : Nat) (ob : Value), k = xs.length - i ∧ i ≤ xs.length ∧ fr 1 = .int .i64 a ∧ fr 5 = ob ∧ fr 8 = v ∧ fr 9 = .int .i64 xs.length ∧ fr 10 = .int .i64 i ∧ (OI w' w.heap.size 2 ob (plcTo xs a i)) ∧ Below w.heap.size w w') (xs.length)
    ⟨0, _, rfl, Nat.zero_le _, rfl, rfl, rfl, rfl, rfl, OI.nil _ _ _, hbB1⟩ ?_
  rintro k fr w1 ⟨i, ob, rfl, hi, f1, f5, f8, f9, f10, ho, hbB1⟩
  have sw1 := hbB1.size
  have hv := hv_b1.below hbB1
  have sho := ho.sv
  refine know (t := 1) f1 ?_; refine know (t := 5) f5 ?_; refine know (t := 8) f8 ?_; refine know (t := 9) f9 ?_; refine know (t := 10) f10 ?_
  refine go ?_
  refine cond_dec rfl (fun hlt => ?_) (fun hge => ?_)
  · have hpl := plcTo_le xs a i
    refine go ?_
    refine cond_dec rfl (fun he => ?_) (fun he => ?_)
    · refine go ?_
      have szq2 := hbB1.size
      refine s_build1 (B := w.heap.size) (wn rfl) rfl rfl szq2 (fun tb w2 ht st hg2 _ => ?_)
      have hb2 := below_of_grownBy hg2
      have sw2 := hb2.size
      replace hv := hv.below hb2
      replace ho := ho.below hb2
      replace hbB1 := hbB1.trans (hb2.mono hbB1.size)
      have szq3 := hbB1.size
      refine s_appendI (wn rfl) rfl rfl rfl ho ht.il (by simp; omega) szq3 (fun ob' w3 hoN so hgN _ => ?_)
      replace hbB1 := hbB1.trans (ho.below_of hgN szq3)
      have sw3 := hgN.size
      replace ho := hoN
      clear hoN
      replace hv := hv_b1.below hbB1
      refine go ?_
      refine ⟨xs.length - (i + 1), by omega, i + 1, ob', rfl, by omega, rfl, rfl, rfl, rfl, rfl, by rw [plcTo_hit he.symm]; exact ho, hbB1⟩
    refine go ?_
    refine ⟨xs.length - (i + 1), by omega, i + 1, ob, rfl, by omega, rfl, rfl, rfl, rfl, rfl, by rw [plcTo_miss (fun e => he e.symm)]; exact ho, hbB1⟩
  obtain rfl : i = xs.length := by omega
  refine go ?_
  exact end_one Tryz.results54 rfl ⟨ho, (hb.trans (hbB1.mono hb.size))⟩

set_option maxRecDepth 100000 in
theorem implFibreOf_any (v : Value) (v2 : Value) (v3 : Value) (ms : List (List Int)) (ks : List (List Int)) (xs : List Int) (fl : Int) (w : World) (hv : RL w v ms) (hv2 : RL w v2 ks) (hv3 : IL w v3 xs) :
    Ret Tryz.prog 15 #[.agg #[v], .agg #[v2], v3, .int .i64 fl] w fun r w' => ∃ x, r = .tuple #[x, .int .i64 (fibC ms ks xs fl)] ∧ OI w' w.heap.size 2 x (fib ms ks xs fl) ∧ Below w.heap.size w w' := by
  have shv := hv.sv
  have shv2 := hv2.sv
  have shv3 := hv3.sv
  have hb := Below.refl w.heap.size w
  refine enter4 26 Tryz.func15 rfl Tryz.ntmps15 rfl (fun fr => ?_)
  refine go ?_
  refine s_box (wn rfl) rfl rfl (agg_cells shv) (fun w1 hbx _ hp hg => ?_)
  have hb1 := below_of_grownBy hg
  have sw1 := hb1.size
  replace hv := hv.below hb1
  replace hv2 := hv2.below hb1
  replace hv3 := hv3.below hb1
  replace hb := hb.trans (hb1.mono hb.size)
  clear hg hp hb1
  generalize (⟨w.heap.size, 0, none⟩ : Addr) = p at *
  refine go ?_
  refine s_box (wn rfl) rfl rfl (agg_cells shv2) (fun w2 hbx2 _ hp hg => ?_)
  have hb2 := below_of_grownBy hg
  have sw2 := hb2.size
  replace hv := hv.below hb2
  replace hv2 := hv2.below hb2
  replace hv3 := hv3.below hb2
  replace hbx := cell_below hbx hb2
  replace hb := hb.trans (hb2.mono hb.size)
  clear hg hp hb2
  generalize (⟨w1.heap.size, 0, none⟩ : Addr) = p2 at *
  refine go ?_
  refine s_call3 (wn rfl) rfl rfl rfl rfl (coveringCode_any _ _ _ _ _ _ _ hv hv2 hv3) ?_
  rintro _ w3 ⟨rfl, hb3⟩
  have sw3 := hb3.size
  replace hv := hv.below hb3
  replace hv2 := hv2.below hb3
  replace hv3 := hv3.below hb3
  replace hbx := cell_below hbx hb3
  replace hbx2 := cell_below hbx2 hb3
  replace hb := hb.trans (hb3.mono hb.size)
  by_cases h : covC ms ks xs = 0
  rotate_left
  · have h2 : covC ms ks xs ≠ 0 := h
    have e := fib_1 (f := fl) h
    refine go ?_
    exact end_two Tryz.results15 rfl rfl ⟨.slice none 0 0, by rw [e.2], by rw [e.1]; exact OI.nil _ _ _, hb⟩
  obtain ⟨hm, hk, hc⟩ := covC_0 h
  have h' : ¬ (covC ms ks xs ≠ 0) := fun h' => h' h
  have k1 := hk.m0.r1
  have k4 := hk.m0.f400
  have h4 := hm.m0.f400
  have hl := hc.1
  refine go ?_
  refine s_call2 (wn rfl) rfl rfl rfl (hasFlag_any _ _ _ fl _ hv2 hbx2 k1 k4) ?_
  rintro _ _ ⟨rfl, rfl⟩
  refine splitb (decide (0 ≤ fl ∧ fl < nf ks)) (fun hf => ?_) (fun hf => ?_)
  rotate_left
  · have e := fib_2 h (of_decide_eq_false hf)
    refine go ?_
    exact end_two Tryz.results15 rfl rfl ⟨.slice none 0 0, by rw [e.2], by rw [e.1]; exact OI.nil _ _ _, hb⟩
  have e := fib_3 h (of_decide_eq_true hf)
  have hs0 := hb.size
  refine go ?_
  refine s_call2 (wn rfl) rfl rfl rfl (placesOf_any _ _ fl _ hv3 (by omega)) ?_
  rintro x w4 ⟨hx, hb4⟩
  have sw4 := hb4.size
  replace hv := hv.below hb4
  replace hv2 := hv2.below hb4
  replace hv3 := hv3.below hb4
  replace hbx := cell_below hbx hb4
  replace hbx2 := cell_below hbx2 hb4
  replace hb := hb.trans (hb4.mono hb.size)
  refine go ?_
  exact end_two Tryz.results15 rfl rfl ⟨x, by rw [e.2], by rw [e.1]; exact hx.mono (by omega), hb⟩

end Go.Proofs.YtablpijnjkncfaaGreat
