/- Contracts: HasEqualVertexFigures and SectionKinds (the program's side). -/
import Derived.Test.YtlfomllgmdahfaaF100
namespace Go.Mem
open Go.RowKit
set_option linter.unusedVariables false
/-- 0 ≤ i ≤ k ≤ the greatest rank -/
def SecOk (ms : List (List Int)) (i k : Int) : Prop := 0 ≤ i ∧ i ≤ k ∧ k < ms.length
instance (ms : List (List Int)) (i k : Int) : Decidable (SecOk ms i k) := inferInstanceAs (Decidable (_ ∧ _))
def secA (ms : List (List Int)) (i k : Int) : List (List Int) := (ms.take (k + 1).toNat).drop i.toNat
noncomputable def skL (ms : List (List Int)) (i k : Int) : List Int := if IsMan ms ∧ SecOk ms i k then secK (nf ms) (secA ms i k) else []
noncomputable def skC (ms : List (List Int)) (i k : Int) : Int := if IsMan ms then (if SecOk ms i k then 0 else 2) else 1
noncomputable def heB (ms : List (List Int)) : Bool := decide (IsMan ms ∧ ms.length ≠ 1 ∧ (secF (nf ms) (secA ms 1 ((ms.length : Int) - 1))).length = 1)
noncomputable def heC (ms : List (List Int)) : Int := if IsMan ms then (if ms.length = 1 then 5 else 0) else 1
section
variable {ms : List (List Int)} {i k : Int}
theorem sk_1 (h : ¬ IsMan ms) : skL ms i k = [] ∧ skC ms i k = 1 := ⟨if_neg fun e => h e.1, if_neg h⟩
theorem sk_2 (hm : IsMan ms) (h : ¬ SecOk ms i k) : skL ms i k = [] ∧ skC ms i k = 2 := ⟨if_neg fun e => h e.2, by unfold skC; rw [if_pos hm, if_neg h]⟩
theorem sk_3 (hm : IsMan ms) (h : SecOk ms i k) : skL ms i k = secK (nf ms) (secA ms i k) ∧ skC ms i k = 0 := ⟨if_pos ⟨hm, h⟩, by unfold skC; rw [if_pos hm, if_pos h]⟩
theorem he_1 (h : ¬ IsMan ms) : heB ms = false ∧ heC ms = 1 := ⟨decide_eq_false fun e => h e.1, if_neg h⟩
theorem he_2 (hm : IsMan ms) (h : ms.length = 1) : heB ms = false ∧ heC ms = 5 := ⟨decide_eq_false fun e => e.2.1 h, by unfold heC; rw [if_pos hm, if_pos h]⟩
theorem he_3 (hm : IsMan ms) (h : ms.length ≠ 1) : heB ms = decide ((secF (nf ms) (secA ms 1 ((ms.length : Int) - 1))).length = 1) ∧ heC ms = 0 := ⟨by unfold heB; rw [decide_eq_decide]; exact ⟨fun e => e.2.2, fun e => ⟨hm, h, e⟩⟩, by unfold heC; rw [if_pos hm, if_neg h]⟩
theorem skL_len (ms : List (List Int)) (i k : Int) : (skL ms i k).length ≤ 400 := by
  unfold skL
  split
  · rename_i h
    have h4 := h.1.m0.f400
    have h5 := h.1.like
    obtain ⟨h1, h2, h3⟩ := h.2
    have hlk : Like (nf ms) (secA ms i k) := (h5.take (by omega)).drop (by simp; omega)
    have hL := (labs_all (hlk.sym fun m h => h) (by omega)).len
    simp [secK, hL]; exact h4
  · simp
end
end Go.Mem
namespace Go.Proofs.Ytlfomllgmdahfaa
open Go.Mem Go.RowKit
set_option linter.unusedVariables false
set_option linter.unusedSimpArgs false

set_option maxRecDepth 100000 in
theorem areRanks_any (v : Value) (pv : Addr) (ms : List (List Int)) (i k : Int) (w : World) (hv : RL w v ms) (hxv : w.cell? pv = some v) (h5 : ms.length ≤ 5) :
    Ret Try.prog 31 #[.pointer (some pv), .int .i64 i, .int .i64 k] w fun r w' => r = .bool (decide (SecOk ms i k)) ∧ w = w' := by
  have shv := hv.sv
  refine enter3 20 Try.func31 rfl Try.ntmps31 rfl (fun fr => ?_)
  refine go ?_
  refine s_call2 (wn rfl) rfl rfl rfl (hasRank_any _ _ _ _ _ hv hxv h5) ?_
  rintro _ _ ⟨rfl, rfl⟩
  by_cases h1 : 0 ≤ i ∧ i < ms.length
  rotate_left
  · have e : decide (SecOk ms i k) = false := decide_eq_false fun h => h1 ⟨h.1, by have := h.2.1; have := h.2.2; omega⟩
    rw [decide_eq_false h1, e]
    refine go ?_
    exact end_one Try.results31 rfl ⟨rfl, rfl⟩
  rw [decide_eq_true h1]
  refine go ?_
  refine s_call2 (wy rfl rfl rfl rfl rfl known) rfl rfl rfl (hasRank_any _ _ _ _ _ hv hxv h5) ?_
  rintro _ _ ⟨rfl, rfl⟩
  by_cases h2 : 0 ≤ k ∧ k < ms.length
  rotate_left
  · have e : decide (SecOk ms i k) = false := decide_eq_false fun h => h2 ⟨by have := h.1; have := h.2.1; omega, h.2.2⟩
    rw [decide_eq_false h2, e]
    refine go ?_
    exact end_one Try.results31 rfl ⟨rfl, rfl⟩
  rw [decide_eq_true h2]
  refine go ?_
  exact end_one Try.results31 rfl ⟨by congr 1; rw [decide_eq_decide]; exact ⟨fun h => ⟨h1.1, h, h2.2⟩, fun h => h.2.1⟩, rfl⟩

set_option maxHeartbeats 8000000 in
set_option maxRecDepth 100000 in
theorem implSectionKinds_any (v : Value) (ms : List (List Int)) (i k : Int) (w : World) (hv : RL w v ms) :
    Ret Try.prog 12 #[.agg #[v], .int .i64 i, .int .i64 k] w fun r w' => ∃ y, r = .tuple #[y, .int .i64 (skC ms i k)] ∧ OI w' w.heap.size 2 y (skL ms i k) ∧ Below w.heap.size w w' := by
  have sv := hv.sv
  refine enter3 26 Try.func12 rfl Try.ntmps12 rfl (fun fr => ?_)
  refine go ?_
  refine s_box (wn rfl) rfl rfl (agg_cells sv) (fun w1 hbx _ hp1 hg => ?_)
  have hb := below_of_grownBy hg
  have hv := hv.below hb
  generalize hpe : (⟨w.heap.size, 0, none⟩ : Addr) = p at *
  refine go ?_
  refine s_call1 (wn rfl) rfl rfl (isManiplex_any _ _ _ hv) ?_
  rintro _ w2 ⟨rfl, hb2⟩
  have hb := hb.trans (hb2.mono hb.size)
  have hbx := cell_below hbx hb2
  have hv := hv.below hb2
  refine splitb (decide (IsMan ms)) (fun hm => ?_) (fun hm => ?_)
  rotate_left
  · have hm' := of_decide_eq_false hm
    have e := sk_1 (i := i) (k := k) hm'
    refine go ?_
    exact end_two Try.results12 rfl rfl ⟨_, by rw [e.2], by rw [e.1]; exact OI.nil _ _ _, hb⟩
  have hm' := of_decide_eq_true hm
  refine go ?_
  refine s_call3 (wn rfl) rfl rfl rfl rfl (areRanks_any _ _ _ _ _ _ hv hbx hm'.m0.r5) ?_
  rintro _ _ ⟨rfl, rfl⟩
  refine splitb (decide (SecOk ms i k)) (fun hs => ?_) (fun hs => ?_)
  rotate_left
  · have e := sk_2 hm' (of_decide_eq_false hs)
    refine go ?_
    exact end_two Try.results12 rfl rfl ⟨_, by rw [e.2], by rw [e.1]; exact OI.nil _ _ _, hb⟩
  have hs' := of_decide_eq_true hs
  have e := sk_3 hm' hs'
  refine go ?_
  refine s_call3 (wn rfl) rfl rfl rfl rfl (sectionForms_any _ _ _ _ _ _ hv hbx hm' hs') ?_
  rintro _ w3 ⟨x, y, us, rfl, hx, hE, hy, hb3⟩
  have hbz := hb.trans (hb3.mono hb.size)
  refine go ?_
  exact end_two Try.results12 rfl rfl ⟨_, by rw [e.2], by rw [e.1]; exact hy.mono hb.size, hbz⟩

set_option maxHeartbeats 8000000 in
set_option maxRecDepth 100000 in
theorem implHasEqualVertexFigures_any (v : Value) (ms : List (List Int)) (w : World) (hv : RL w v ms) :
    Ret Try.prog 9 #[.agg #[v]] w fun r w' => r = .tuple #[.bool (heB ms), .int .i64 (heC ms)] ∧ Below w.heap.size w w' := by
  have sv := hv.sv
  refine enter1 22 Try.func9 rfl Try.ntmps9 rfl (fun fr => ?_)
  refine go ?_
  refine s_box (wn rfl) rfl rfl (agg_cells sv) (fun w1 hbx _ hp1 hg => ?_)
  have hb := below_of_grownBy hg
  have hv := hv.below hb
  generalize hpe : (⟨w.heap.size, 0, none⟩ : Addr) = p at *
  refine go ?_
  refine s_call1 (wn rfl) rfl rfl (isManiplex_any _ _ _ hv) ?_
  rintro _ w2 ⟨rfl, hb2⟩
  have hb := hb.trans (hb2.mono hb.size)
  have hbx := cell_below hbx hb2
  have hv := hv.below hb2
  refine splitb (decide (IsMan ms)) (fun hm => ?_) (fun hm => ?_)
  rotate_left
  · have e := he_1 (of_decide_eq_false hm)
    refine go ?_
    exact end_two Try.results9 rfl rfl ⟨by rw [e.1, e.2], hb⟩
  have hm' := of_decide_eq_true hm
  have r1 := hm'.m0.r1
  have r5 := hm'.m0.r5
  refine go ?_
  refine s_call1 (wn rfl) rfl rfl (rank_any _ _ _ _ hbx sv) ?_
  rintro _ _ ⟨rfl, rfl⟩
  refine go ?_
  by_cases h1 : ms.length = 1
  · have e := he_2 hm' h1
    have hd : decide ((ms.length : Int) = 1) = true := decide_eq_true (by omega)
    refine go ?_
    exact end_two Try.results9 rfl rfl ⟨by rw [e.1, e.2], hb⟩
  have e := he_3 hm' h1
  have hd : decide ((ms.length : Int) = 1) = false := decide_eq_false (by omega)
  refine go ?_
  refine s_call1 (wn rfl) rfl rfl (rank_any _ _ _ _ hbx sv) ?_
  rintro _ _ ⟨rfl, rfl⟩
  refine go ?_
  refine s_call3 (wn rfl) rfl rfl rfl rfl (sectionForms_any _ _ _ _ _ _ hv hbx hm' ⟨by omega, by omega, by omega⟩) ?_
  rintro _ w3 ⟨x, y, us, rfl, hx, hE, hy, hb3⟩
  have hbz := hb.trans (hb3.mono hb.size)
  have sx := hx.sv
  have hel := hE.len
  refine go ?_
  exact end_two Try.results9 rfl rfl ⟨by
    rw [e.1, e.2]
    have : decide ((us.length : Int) = 1) = decide ((secF (nf ms) (secA ms 1 ((ms.length : Int) - 1))).length = 1) := by
      rw [decide_eq_decide, hel]
      show (((secF (nf ms) (secA ms 1 ((ms.length : Int) - 1))).length : Int) = 1) ↔ _
      omega
    rw [this], hbz⟩
end Go.Proofs.Ytlfomllgmdahfaa
