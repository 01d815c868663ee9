/- Contracts: HasEqualVertexFigures and SectionKinds (the program's side). -/
import Derived.Test.YtdpjjgjeodippaaGreatF100
namespace Go.Mem
open Go.RowKit
set_option linter.unusedVariables false
/-- 0 ≤ i ≤ k ≤ the greatest rank -/
def SecOk (ms : List (List Int)) (i k : Int) : Prop := 0 ≤ i ∧ i ≤ k ∧ k < ms.length
instance (ms : List (List Int)) (i k : Int) : Decidable (SecOk ms i k) := inferInstanceAs (Decidable (_ ∧ _))
def secA (ms : List (List Int)) (i k : Int) : List (List Int) := (ms.take (k + 1).toNat).drop i.toNat
noncomputable def skL (ms : List (List Int)) (i k : Int) : List Int := if IsMan ms ∧ SecOk ms i k then secK (nf ms) (secA ms i k) else []
noncomputable def skC (ms : List (List Int)) (i k : Int) : Int := if IsMan ms then (if SecOk ms i k then 0 else 2) else 1
noncomputable def heB (ms : List (List Int)) : Bool := decide (IsMan ms ∧ ms.length ≠ 1 ∧ (secF (nf ms) (secA ms 1 ((ms.length : Int) - 1))).length = 1)
noncomputable def heC (ms : List (List Int)) : Int := if IsMan ms then (if ms.length = 1 then 5 else 0) else 1
section
variable {ms : List (List Int)} {i k : Int}
theorem sk_1 (h : ¬ IsMan ms) : skL ms i k = [] ∧ skC ms i k = 1 := ⟨if_neg fun e => h e.1, if_neg h⟩
theorem sk_2 (hm : IsMan ms) (h : ¬ SecOk ms i k) : skL ms i k = [] ∧ skC ms i k = 2 := ⟨if_neg fun e => h e.2, by unfold skC; rw [if_pos hm, if_neg h]⟩
theorem sk_3 (hm : IsMan ms) (h : SecOk ms i k) : skL ms i k = secK (nf ms) (secA ms i k) ∧ skC ms i k = 0 := ⟨if_pos ⟨hm, h⟩, by unfold skC; rw [if_pos hm, if_pos h]⟩
theorem he_1 (h : ¬ IsMan ms) : heB ms = false ∧ heC ms = 1 := ⟨decide_eq_false fun e => h e.1, if_neg h⟩
theorem he_2 (hm : IsMan ms) (h : ms.length = 1) : heB ms = false ∧ heC ms = 5 := ⟨decide_eq_false fun e => e.2.1 h, by unfold heC; rw [if_pos hm, if_pos h]⟩
theorem he_3 (hm : IsMan ms) (h : ms.length ≠ 1) : heB ms = decide ((secF (nf ms) (secA ms 1 ((ms.length : Int) - 1))).length = 1) ∧ heC ms = 0 := ⟨by unfold heB; rw [decide_eq_decide]; exact ⟨fun e => e.2.2, fun e => ⟨hm, h, e⟩⟩, by unfold heC; rw [if_pos hm, if_neg h]⟩
theorem skL_len (ms : List (List Int)) (i k : Int) : (skL ms i k).length ≤ 400 := by
  unfold skL
  split
  · rename_i h
    have h4 := h.1.m0.f400
    have h5 := h.1.like
    obtain ⟨h1, h2, h3⟩ := h.2
    have hlk : Like (nf ms) (secA ms i k) := (h5.take (by omega)).drop (by simp; omega)
    have hL := (labs_all (hlk.sym fun m h => h) (by omega)).len
    simp [secK, hL]; exact h4
  · simp
end
end Go.Mem
namespace Go.Proofs.YtdpjjgjeodippaaGreat
open Go.Mem Go.RowKit
set_option linter.unusedVariables false
set_option linter.unusedSimpArgs false

set_option maxRecDepth 100000 in
theorem areRanks_any (v : Value) (pv : Addr) (ms : List (List Int)) (i k : Int) (w : World) (hv : RL w v ms) (hxv : w.cell? pv = some v) (h5 : ms.length ≤ 5) :
    Ret Tryz.prog 19 #[.pointer (some pv), .int .i64 i, .int .i64 k] w fun r w' => r = .bool (decide (SecOk ms i k)) ∧ w = w' := by
  have shv := hv.sv
  refine enter3 20 Tryz.func19 rfl Tryz.ntmps19 rfl (fun fr => ?_)
  refine go ?_
  refine s_call2 (wn rfl) rfl rfl rfl (hasRank_any _ _ _ _ _ hv hxv h5) ?_
  rintro _ _ ⟨rfl, rfl⟩
  by_cases h1 : 0 ≤ i ∧ i < ms.length
  rotate_left
  · have e : decide (SecOk ms i k) = false := decide_eq_false fun h => h1 ⟨h.1, by have := h.2.1; have := h.2.2; omega⟩
    rw [decide_eq_false h1, e]
    refine go ?_
    exact end_one Tryz.results19 rfl ⟨rfl, rfl⟩
  rw [decide_eq_true h1]
  refine go ?_
  refine s_call2 (wy rfl rfl rfl rfl rfl known) rfl rfl rfl (hasRank_any _ _ _ _ _ hv hxv h5) ?_
  rintro _ _ ⟨rfl, rfl⟩
  by_cases h2 : 0 ≤ k ∧ k < ms.length
  rotate_left
  · have e : decide (SecOk ms i k) = false := decide_eq_false fun h => h2 ⟨by have := h.1; have := h.2.1; omega, h.2.2⟩
    rw [decide_eq_false h2, e]
    refine go ?_
    exact end_one Tryz.results19 rfl ⟨rfl, rfl⟩
  rw [decide_eq_true h2]
  refine go ?_
  exact end_one Tryz.results19 rfl ⟨by congr 1; rw [decide_eq_decide]; exact ⟨fun h => ⟨h1.1, h, h2.2⟩, fun h => h.2.1⟩, rfl⟩

end Go.Proofs.YtdpjjgjeodippaaGreat
