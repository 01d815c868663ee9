/- Contracts: CountCoverings, AreCovered, AreIsomorphic, on both sides. -/
import Derived.Test.YtebcaajlkealoaaF13
import Derived.Test.YtebcaajlkealoaaP9
namespace Go.Proofs.Ytebcaajlkealoaa
open Go.Mem Go.RowKit

/-- the code of two maniplexes -/
noncomputable def manCode2 (ms ks : List (List Int)) : Int := if IsMan ms ∧ IsMan ks then 0 else 1
noncomputable def cntCov (ms ks : List (List Int)) : Int := if IsMan ms ∧ IsMan ks then ((covers ms ks (nf ks)).length : Nat) else 0
noncomputable def areCov (ms ks : List (List Int)) : Bool := if IsMan ms ∧ IsMan ks then decide (0 < ((covers ms ks (nf ks)).length : Int)) else false
noncomputable def areIso (ms ks : List (List Int)) : Bool := if IsMan ms ∧ IsMan ks then (isoOf ms ks).isSome else false

theorem specCountCoverings_any (v v2 : Value) (ms ks : List (List Int)) (w : World) (hv : RL w v ms) (hv2 : RL w v2 ks) :
    Ret Try.prog 20 #[.agg #[v], .agg #[v2]] w fun r w' => r = .tuple #[.int .i64 (cntCov ms ks), .int .i64 (manCode2 ms ks)] ∧ Below w.heap.size w w' := by
  have sv := hv.sv
  have sv2 := hv2.sv
  refine enter2 18 Try.func20 rfl Try.ntmps20 rfl (fun fr => ?_)
  refine go ?_
  refine s_box (wn rfl) rfl rfl (agg_cells sv) (fun w1 hbx _ hp1 hg => ?_)
  have hb := below_of_grownBy hg
  have hv := hv.below hb
  have hv2 := hv2.below hb
  generalize hpe : (⟨w.heap.size, 0, none⟩ : Addr) = p at *
  refine s_box (wn rfl) rfl rfl (agg_cells sv2) (fun w2 hbx2 _ hp2 hg2 => ?_)
  have hb2 := below_of_grownBy hg2
  have hbx := cell_below hbx hb2
  have hv := hv.below hb2
  have hv2 := hv2.below hb2
  have hb := hb.trans (hb2.mono hb.size)
  clear hb2 hg hg2 hp1 hp2
  generalize (⟨w1.heap.size, 0, none⟩ : Addr) = p2 at *
  refine go ?_
  refine s_call1 (wn rfl) rfl rfl (l02Is_any _ _ _ hv) ?_
  rintro _ w3 ⟨rfl, hb3⟩
  have hv := hv.below hb3
  have hv2 := hv2.below hb3
  have hbx := cell_below hbx hb3
  have hbx2 := cell_below hbx2 hb3
  have hb := hb.trans (hb3.mono hb.size)
  refine splitb (decide (IsMan ms)) (fun hm => ?_) (fun hm => ?_)
  rotate_left
  · have hm' := of_decide_eq_false hm
    refine go ?_
    exact end_two Try.results20 rfl rfl ⟨by unfold cntCov manCode2; rw [if_neg (fun h => hm' h.1), if_neg (fun h => hm' h.1)], hb⟩
  have hm' := of_decide_eq_true hm
  refine go ?_
  refine s_call1 (wy rfl rfl rfl rfl rfl known) rfl rfl (l02Is_any _ _ _ hv2) ?_
  rintro _ w4 ⟨rfl, hb4⟩
  have hv := hv.below hb4
  have hv2 := hv2.below hb4
  have hbx := cell_below hbx hb4
  have hbx2 := cell_below hbx2 hb4
  have hb := hb.trans (hb4.mono hb.size)
  refine splitb (decide (IsMan ks)) (fun hk => ?_) (fun hk => ?_)
  rotate_left
  · have hk' := of_decide_eq_false hk
    refine go ?_
    exact end_two Try.results20 rfl rfl ⟨by unfold cntCov manCode2; rw [if_neg (fun h => hk' h.2), if_neg (fun h => hk' h.2)], hb⟩
  have hk' := of_decide_eq_true hk
  refine go ?_
  refine s_call2 (wn rfl) rfl rfl rfl (l07Covers_any _ _ _ _ _ hv hv2 hm' hk') ?_
  rintro r w5 ⟨hr, hb5⟩
  have sr := hr.sv
  have hb := hb.trans (hb5.mono hb.size)
  refine go ?_
  exact end_two Try.results20 rfl rfl ⟨by unfold cntCov manCode2; rw [if_pos ⟨hm', hk'⟩, if_pos ⟨hm', hk'⟩], hb⟩

theorem implCountCoverings_any (v v2 : Value) (ms ks : List (List Int)) (w : World) (hv : RL w v ms) (hv2 : RL w v2 ks) :
    Ret Try.prog 21 #[.agg #[v], .agg #[v2]] w fun r w' => r = .tuple #[.int .i64 (cntCov ms ks), .int .i64 (manCode2 ms ks)] ∧ Below w.heap.size w w' := by
  have sv := hv.sv
  have sv2 := hv2.sv
  refine enter2 18 Try.func21 rfl Try.ntmps21 rfl (fun fr => ?_)
  refine go ?_
  refine s_box (wn rfl) rfl rfl (agg_cells sv) (fun w1 hbx _ hp1 hg => ?_)
  have hb := below_of_grownBy hg
  have hv := hv.below hb
  have hv2 := hv2.below hb
  generalize hpe : (⟨w.heap.size, 0, none⟩ : Addr) = p at *
  refine s_box (wn rfl) rfl rfl (agg_cells sv2) (fun w2 hbx2 _ hp2 hg2 => ?_)
  have hb2 := below_of_grownBy hg2
  have hbx := cell_below hbx hb2
  have hv := hv.below hb2
  have hv2 := hv2.below hb2
  have hb := hb.trans (hb2.mono hb.size)
  clear hb2 hg hg2 hp1 hp2
  generalize (⟨w1.heap.size, 0, none⟩ : Addr) = p2 at *
  refine go ?_
  refine s_call1 (wn rfl) rfl rfl (isManiplex_any _ _ _ hv) ?_
  rintro _ w3 ⟨rfl, hb3⟩
  have hv := hv.below hb3
  have hv2 := hv2.below hb3
  have hbx := cell_below hbx hb3
  have hbx2 := cell_below hbx2 hb3
  have hb := hb.trans (hb3.mono hb.size)
  refine splitb (decide (IsMan ms)) (fun hm => ?_) (fun hm => ?_)
  rotate_left
  · have hm' := of_decide_eq_false hm
    refine go ?_
    exact end_two Try.results21 rfl rfl ⟨by unfold cntCov manCode2; rw [if_neg (fun h => hm' h.1), if_neg (fun h => hm' h.1)], hb⟩
  have hm' := of_decide_eq_true hm
  refine go ?_
  refine s_call1 (wy rfl rfl rfl rfl rfl known) rfl rfl (isManiplex_any _ _ _ hv2) ?_
  rintro _ w4 ⟨rfl, hb4⟩
  have hv := hv.below hb4
  have hv2 := hv2.below hb4
  have hbx := cell_below hbx hb4
  have hbx2 := cell_below hbx2 hb4
  have hb := hb.trans (hb4.mono hb.size)
  refine splitb (decide (IsMan ks)) (fun hk => ?_) (fun hk => ?_)
  rotate_left
  · have hk' := of_decide_eq_false hk
    refine go ?_
    exact end_two Try.results21 rfl rfl ⟨by unfold cntCov manCode2; rw [if_neg (fun h => hk' h.2), if_neg (fun h => hk' h.2)], hb⟩
  have hk' := of_decide_eq_true hk
  refine go ?_
  refine s_call2 (wn rfl) rfl rfl rfl (coveringsOf_any _ _ _ _ _ hv hv2 hm' hk') ?_
  rintro r w5 ⟨hr, hb5⟩
  have sr := hr.sv
  have hb := hb.trans (hb5.mono hb.size)
  refine go ?_
  refine s_call1 (wn rfl) rfl rfl (sizeR_any _ _ _ sr) ?_
  rintro _ _ ⟨rfl, rfl⟩
  refine go ?_
  exact end_two Try.results21 rfl rfl ⟨by unfold cntCov manCode2; rw [if_pos ⟨hm', hk'⟩, if_pos ⟨hm', hk'⟩], hb⟩

theorem implAreCovered_any (v v2 : Value) (ms ks : List (List Int)) (w : World) (hv : RL w v ms) (hv2 : RL w v2 ks) :
    Ret Try.prog 23 #[.agg #[v], .agg #[v2]] w fun r w' => r = .tuple #[.bool (areCov ms ks), .int .i64 (manCode2 ms ks)] ∧ Below w.heap.size w w' := by
  have sv := hv.sv
  have sv2 := hv2.sv
  refine enter2 19 Try.func23 rfl Try.ntmps23 rfl (fun fr => ?_)
  refine go ?_
  refine s_box (wn rfl) rfl rfl (agg_cells sv) (fun w1 hbx _ hp1 hg => ?_)
  have hb := below_of_grownBy hg
  have hv := hv.below hb
  have hv2 := hv2.below hb
  generalize hpe : (⟨w.heap.size, 0, none⟩ : Addr) = p at *
  refine s_box (wn rfl) rfl rfl (agg_cells sv2) (fun w2 hbx2 _ hp2 hg2 => ?_)
  have hb2 := below_of_grownBy hg2
  have hbx := cell_below hbx hb2
  have hv := hv.below hb2
  have hv2 := hv2.below hb2
  have hb := hb.trans (hb2.mono hb.size)
  clear hb2 hg hg2 hp1 hp2
  generalize (⟨w1.heap.size, 0, none⟩ : Addr) = p2 at *
  refine go ?_
  refine s_call1 (wn rfl) rfl rfl (isManiplex_any _ _ _ hv) ?_
  rintro _ w3 ⟨rfl, hb3⟩
  have hv := hv.below hb3
  have hv2 := hv2.below hb3
  have hbx := cell_below hbx hb3
  have hbx2 := cell_below hbx2 hb3
  have hb := hb.trans (hb3.mono hb.size)
  refine splitb (decide (IsMan ms)) (fun hm => ?_) (fun hm => ?_)
  rotate_left
  · have hm' := of_decide_eq_false hm
    refine go ?_
    exact end_two Try.results23 rfl rfl ⟨by unfold areCov manCode2; rw [if_neg (fun h => hm' h.1), if_neg (fun h => hm' h.1)], hb⟩
  have hm' := of_decide_eq_true hm
  refine go ?_
  refine s_call1 (wy rfl rfl rfl rfl rfl known) rfl rfl (isManiplex_any _ _ _ hv2) ?_
  rintro _ w4 ⟨rfl, hb4⟩
  have hv := hv.below hb4
  have hv2 := hv2.below hb4
  have hbx := cell_below hbx hb4
  have hbx2 := cell_below hbx2 hb4
  have hb := hb.trans (hb4.mono hb.size)
  refine splitb (decide (IsMan ks)) (fun hk => ?_) (fun hk => ?_)
  rotate_left
  · have hk' := of_decide_eq_false hk
    refine go ?_
    exact end_two Try.results23 rfl rfl ⟨by unfold areCov manCode2; rw [if_neg (fun h => hk' h.2), if_neg (fun h => hk' h.2)], hb⟩
  have hk' := of_decide_eq_true hk
  refine go ?_
  refine s_call2 (wn rfl) rfl rfl rfl (coveringsOf_any _ _ _ _ _ hv hv2 hm' hk') ?_
  rintro r w5 ⟨hr, hb5⟩
  have sr := hr.sv
  have hb := hb.trans (hb5.mono hb.size)
  refine go ?_
  exact end_two Try.results23 rfl rfl ⟨by unfold areCov manCode2; rw [if_pos ⟨hm', hk'⟩, if_pos ⟨hm', hk'⟩], hb⟩

theorem specAreCovered_any (v v2 : Value) (ms ks : List (List Int)) (w : World) (hv : RL w v ms) (hv2 : RL w v2 ks) :
    Ret Try.prog 22 #[.agg #[v], .agg #[v2]] w fun r w' => r = .tuple #[.bool (areCov ms ks), .int .i64 (manCode2 ms ks)] ∧ Below w.heap.size w w' := by
  have sv := hv.sv
  have sv2 := hv2.sv
  refine enter2 19 Try.func22 rfl Try.ntmps22 rfl (fun fr => ?_)
  refine go ?_
  refine s_box (wn rfl) rfl rfl (agg_cells sv) (fun w1 hbx _ hp1 hg => ?_)
  have hb := below_of_grownBy hg
  have hv := hv.below hb
  have hv2 := hv2.below hb
  generalize hpe : (⟨w.heap.size, 0, none⟩ : Addr) = p at *
  refine s_box (wn rfl) rfl rfl (agg_cells sv2) (fun w2 hbx2 _ hp2 hg2 => ?_)
  have hb2 := below_of_grownBy hg2
  have hbx := cell_below hbx hb2
  have hv := hv.below hb2
  have hv2 := hv2.below hb2
  have hb := hb.trans (hb2.mono hb.size)
  clear hb2 hg hg2 hp1 hp2
  generalize (⟨w1.heap.size, 0, none⟩ : Addr) = p2 at *
  refine go ?_
  refine s_call2 (wn rfl) rfl rfl rfl (specCountCoverings_any _ _ _ _ _ hv hv2) ?_
  rintro _ w3 ⟨rfl, hb3⟩
  have hb := hb.trans (hb3.mono hb.size)
  by_cases hmk : IsMan ms ∧ IsMan ks
  · have e1 : manCode2 ms ks = 0 := by unfold manCode2; rw [if_pos hmk]
    have e2 : areCov ms ks = decide (0 < cntCov ms ks) := by unfold areCov cntCov; rw [if_pos hmk, if_pos hmk]
    rw [e1, e2]
    refine go ?_
    exact end_two Try.results22 rfl rfl ⟨rfl, hb⟩
  · have e1 : manCode2 ms ks = 1 := by unfold manCode2; rw [if_neg hmk]
    have e2 : areCov ms ks = false := by unfold areCov; rw [if_neg hmk]
    rw [e1, e2]
    refine go ?_
    exact end_two Try.results22 rfl rfl ⟨rfl, hb⟩

theorem specAreIsomorphic_any (v v2 : Value) (ms ks : List (List Int)) (w : World) (hv : RL w v ms) (hv2 : RL w v2 ks) :
    Ret Try.prog 24 #[.agg #[v], .agg #[v2]] w fun r w' => r = .tuple #[.bool (areIso ms ks), .int .i64 (manCode2 ms ks)] ∧ Below w.heap.size w w' := by
  have sv := hv.sv
  have sv2 := hv2.sv
  refine enter2 23 Try.func24 rfl Try.ntmps24 rfl (fun fr => ?_)
  refine go ?_
  refine s_box (wn rfl) rfl rfl (agg_cells sv) (fun w1 hbx _ hp1 hg => ?_)
  have hb := below_of_grownBy hg
  have hv := hv.below hb
  have hv2 := hv2.below hb
  generalize hpe : (⟨w.heap.size, 0, none⟩ : Addr) = p at *
  refine s_box (wn rfl) rfl rfl (agg_cells sv2) (fun w2 hbx2 _ hp2 hg2 => ?_)
  have hb2 := below_of_grownBy hg2
  have hbx := cell_below hbx hb2
  have hv := hv.below hb2
  have hv2 := hv2.below hb2
  have hb := hb.trans (hb2.mono hb.size)
  clear hb2 hg hg2 hp1 hp2
  generalize (⟨w1.heap.size, 0, none⟩ : Addr) = p2 at *
  refine go ?_
  refine s_call1 (wn rfl) rfl rfl (l02Is_any _ _ _ hv) ?_
  rintro _ w3 ⟨rfl, hb3⟩
  have hv := hv.below hb3
  have hv2 := hv2.below hb3
  have hbx := cell_below hbx hb3
  have hbx2 := cell_below hbx2 hb3
  have hb := hb.trans (hb3.mono hb.size)
  refine splitb (decide (IsMan ms)) (fun hm => ?_) (fun hm => ?_)
  rotate_left
  · have hm' := of_decide_eq_false hm
    refine go ?_
    exact end_two Try.results24 rfl rfl ⟨by unfold areIso manCode2; rw [if_neg (fun h => hm' h.1), if_neg (fun h => hm' h.1)], hb⟩
  have hm' := of_decide_eq_true hm
  refine go ?_
  refine s_call1 (wy rfl rfl rfl rfl rfl known) rfl rfl (l02Is_any _ _ _ hv2) ?_
  rintro _ w4 ⟨rfl, hb4⟩
  have hv := hv.below hb4
  have hv2 := hv2.below hb4
  have hbx := cell_below hbx hb4
  have hbx2 := cell_below hbx2 hb4
  have hb := hb.trans (hb4.mono hb.size)
  refine splitb (decide (IsMan ks)) (fun hk => ?_) (fun hk => ?_)
  rotate_left
  · have hk' := of_decide_eq_false hk
    refine go ?_
    exact end_two Try.results24 rfl rfl ⟨by unfold areIso manCode2; rw [if_neg (fun h => hk' h.2), if_neg (fun h => hk' h.2)], hb⟩
  have hk' := of_decide_eq_true hk
  refine go ?_
  refine s_call2 (wn rfl) rfl rfl rfl (l06First_any _ _ _ _ _ hv hv2 hm' hk') ?_
  rintro _ w5 ⟨x, rfl, hx, hb5⟩
  have hb := hb.trans (hb5.mono hb.size)
  refine go ?_
  exact end_two Try.results24 rfl rfl ⟨by unfold areIso manCode2; rw [if_pos ⟨hm', hk'⟩, if_pos ⟨hm', hk'⟩], hb⟩

theorem implAreIsomorphic_any (v v2 : Value) (ms ks : List (List Int)) (w : World) (hv : RL w v ms) (hv2 : RL w v2 ks) :
    Ret Try.prog 25 #[.agg #[v], .agg #[v2]] w fun r w' => r = .tuple #[.bool (areIso ms ks), .int .i64 (manCode2 ms ks)] ∧ Below w.heap.size w w' := by
  have sv := hv.sv
  have sv2 := hv2.sv
  refine enter2 18 Try.func25 rfl Try.ntmps25 rfl (fun fr => ?_)
  refine go ?_
  refine s_box (wn rfl) rfl rfl (agg_cells sv) (fun w1 hbx _ hp1 hg => ?_)
  have hb := below_of_grownBy hg
  have hv := hv.below hb
  have hv2 := hv2.below hb
  generalize hpe : (⟨w.heap.size, 0, none⟩ : Addr) = p at *
  refine s_box (wn rfl) rfl rfl (agg_cells sv2) (fun w2 hbx2 _ hp2 hg2 => ?_)
  have hb2 := below_of_grownBy hg2
  have hbx := cell_below hbx hb2
  have hv := hv.below hb2
  have hv2 := hv2.below hb2
  have hb := hb.trans (hb2.mono hb.size)
  clear hb2 hg hg2 hp1 hp2
  generalize (⟨w1.heap.size, 0, none⟩ : Addr) = p2 at *
  refine go ?_
  refine s_call1 (wn rfl) rfl rfl (isManiplex_any _ _ _ hv) ?_
  rintro _ w3 ⟨rfl, hb3⟩
  have hv := hv.below hb3
  have hv2 := hv2.below hb3
  have hbx := cell_below hbx hb3
  have hbx2 := cell_below hbx2 hb3
  have hb := hb.trans (hb3.mono hb.size)
  refine splitb (decide (IsMan ms)) (fun hm => ?_) (fun hm => ?_)
  rotate_left
  · have hm' := of_decide_eq_false hm
    refine go ?_
    exact end_two Try.results25 rfl rfl ⟨by unfold areIso manCode2; rw [if_neg (fun h => hm' h.1), if_neg (fun h => hm' h.1)], hb⟩
  have hm' := of_decide_eq_true hm
  refine go ?_
  refine s_call1 (wy rfl rfl rfl rfl rfl known) rfl rfl (isManiplex_any _ _ _ hv2) ?_
  rintro _ w4 ⟨rfl, hb4⟩
  have hv := hv.below hb4
  have hv2 := hv2.below hb4
  have hbx := cell_below hbx hb4
  have hbx2 := cell_below hbx2 hb4
  have hb := hb.trans (hb4.mono hb.size)
  refine splitb (decide (IsMan ks)) (fun hk => ?_) (fun hk => ?_)
  rotate_left
  · have hk' := of_decide_eq_false hk
    refine go ?_
    exact end_two Try.results25 rfl rfl ⟨by unfold areIso manCode2; rw [if_neg (fun h => hk' h.2), if_neg (fun h => hk' h.2)], hb⟩
  have hk' := of_decide_eq_true hk
  refine go ?_
  refine s_call2 (wn rfl) rfl rfl rfl (isomorphismOf_any _ _ _ _ _ hv hv2 hm' hk' (covers_ne hm')) ?_
  rintro r w5 ⟨hr, hb5⟩
  have sr := hr.sv
  have hb := hb.trans (hb5.mono hb.size)
  have hnil := hr.nilV
  have hsome : (!nilV r) = (isoOf ms ks).isSome := by rw [hnil]; cases isoOf ms ks <;> rfl
  refine go ?_
  rw [hsome]
  exact end_two Try.results25 rfl rfl ⟨by unfold areIso manCode2; rw [if_pos ⟨hm', hk'⟩, if_pos ⟨hm', hk'⟩], hb⟩
end Go.Proofs.Ytebcaajlkealoaa
