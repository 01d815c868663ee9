/- Contracts: IsSelfDual, IsSelfPetrie, on both sides. -/
import Derived.Test.YtmdimdbfgibflaaF43
import Derived.Test.YtmdimdbfgibflaaF37
namespace Go.Mem
section
variable {ms : List (List Int)}
noncomputable def sdB (ms : List (List Int)) : Bool := if IsMan ms then decide (lst ms = lst (frm (nf ms) ms.reverse 0)) else false
theorem sdB_no (h : ¬ IsMan ms) : sdB ms = false := if_neg h
theorem sdB_yes (h : IsMan ms) : sdB ms = decide (lst ms = lst (frm (nf ms) ms.reverse 0)) := if_pos h
noncomputable def spB (ms : List (List Int)) : Bool := if petC ms = 0 then decide (lst ms = lst (petL ms)) else false
theorem spB_no (h : petC ms ≠ 0) : spB ms = false := if_neg h
theorem spB_yes (h : petC ms = 0) : spB ms = decide (lst ms = lst (petL ms)) := if_pos h
theorem petC_0 (h : petC ms = 0) : IsMan ms ∧ IsMan (petL ms) := by
  by_cases hm : IsMan ms
  · by_cases h3 : 3 ≤ ms.length
    · obtain ⟨e1, e2⟩ := pet_3 hm h3
      rw [e2] at h
      unfold replC at h
      split at h
      · rename_i hk
        refine ⟨hm, ?_⟩
        rw [e1]; unfold replL; rw [if_pos hk]; exact hk
      · exact absurd h (by decide)
    · rw [(pet_2 hm h3).2] at h; exact absurd h (by decide)
  · rw [(pet_1 hm).2] at h; exact absurd h (by decide)
end
end Go.Mem
namespace Go.Proofs.Ytmdimdbfgibflaa
open Go.Mem Go.RowKit
set_option linter.unusedVariables false
set_option linter.unusedSimpArgs false
set_option maxHeartbeats 8000000 in
set_option maxRecDepth 100000 in
theorem implIsSelfDual_any (v : Value) (ms : List (List Int)) (w : World) (hv : RL w v ms) :
    Ret Try.prog 59 #[.agg #[v]] w fun r w' => r = .tuple #[.bool (sdB ms), .int .i64 (manC ms)] ∧ Below w.heap.size w w' := by
  have shv := hv.sv
  have hb := Below.refl w.heap.size w
  refine enter1 13 Try.func59 rfl Try.ntmps59 rfl (fun fr => ?_)
  refine go ?_
  refine s_box (wn rfl) rfl rfl (agg_cells shv) (fun w1 hbx _ hp hg => ?_)
  have hb1 := below_of_grownBy hg
  have sw1 := hb1.size
  replace hv := hv.below hb1
  replace hb := hb.trans (hb1.mono hb.size)
  clear hg hp hb1
  generalize (⟨w.heap.size, 0, none⟩ : Addr) = p at *
  refine go ?_
  refine s_call1 (wn rfl) rfl rfl (isManiplex_any _ _ _ hv) ?_
  rintro _ w2 ⟨rfl, hb2⟩
  have sw2 := hb2.size
  replace hv := hv.below hb2
  replace hbx := cell_below hbx hb2
  replace hb := hb.trans (hb2.mono hb.size)
  refine splitb (decide (IsMan ms)) (fun hm => ?_) (fun hm => ?_)
  rotate_left
  · have hm := of_decide_eq_false hm
    have e := And.intro (sdB_no hm) (manC_no hm)
    refine go ?_
    exact end_two Try.results59 rfl rfl ⟨by rw [e.1, e.2], hb⟩
  have hm' := of_decide_eq_true hm
  have e := And.intro (sdB_yes hm') (manC_yes hm')
  have hd := dual_man hm'
  refine go ?_
  refine region_h mixed (fun w3 hc3 => ?_)
  have swr3 := hc3.size
  refine h_p 0 hc3 ?_
  refine h_p 2 hc3 ?_
  refine h_one 1 ?_
  refine s_call1 (wn rfl) rfl rfl (leastForm_any _ _ _ (hv.below hc3) hm') ?_
  rintro _ w4 ⟨x, rfl, hx, hb4⟩
  have hc4 := hc3.trans (hb4.mono hc3.size)
  refine w_nil ?_
  refine h_on ⟨hc4, ?_⟩
  refine h_one 3 ?_
  refine s_call1 (wn rfl) rfl rfl (dualOf_any _ _ _ (hv.below hc4) hm') ?_
  rintro _ w5 ⟨y, rfl, hy, hb5⟩
  have hc5 := hc4.trans (hb5.mono hc4.size)
  replace hx := hx.below hb5
  refine w_nil ?_
  refine h_on ⟨hc5, ?_⟩
  refine h_one 4 ?_
  refine s_call1 (wn rfl) rfl rfl (leastForm_any _ _ _ hy.rl hd) ?_
  rintro _ w6 ⟨z, rfl, hz, hb6⟩
  have hc6 := hc5.trans (hb6.mono hc5.size)
  replace hx := hx.below hb6
  replace hy := hy.below hb6
  refine w_nil ?_
  refine h_on ⟨hc6, ?_⟩
  refine h_one 5 ?_
  refine s_call2 (wn rfl) rfl rfl rfl (sameManiplex_any _ _ _ _ _ hx.rl hz.rl) ?_
  rintro _ w7 ⟨rfl, hb7⟩
  have hc7 := hc6.trans (hb7.mono hc6.size)
  replace hx := hx.below hb7
  replace hy := hy.below hb7
  replace hz := hz.below hb7
  refine w_nil ?_
  refine h_on ⟨hc7, ?_⟩
  refine h_p 6 hc7 ?_
  refine h_p 7 hc7 ?_
  refine h_nil ?_
  have sw7 := hc7.size
  replace hv := hv.below hc7
  replace hbx := cell_below hbx hc7
  replace hb := hb.trans (hc7.mono hb.size)
  refine go ?_
  exact end_two Try.results59 rfl rfl ⟨by rw [e.1, e.2], hb⟩

set_option maxHeartbeats 8000000 in
set_option maxRecDepth 100000 in
theorem implIsSelfPetrie_any (v : Value) (ms : List (List Int)) (w : World) (hv : RL w v ms) :
    Ret Try.prog 42 #[.agg #[v]] w fun r w' => r = .tuple #[.bool (spB ms), .int .i64 (petC ms)] ∧ Below w.heap.size w w' := by
  have shv := hv.sv
  have hb := Below.refl w.heap.size w
  refine enter1 21 Try.func42 rfl Try.ntmps42 rfl (fun fr => ?_)
  refine go ?_
  refine s_box (wn rfl) rfl rfl (agg_cells shv) (fun w1 hbx _ hp hg => ?_)
  have hb1 := below_of_grownBy hg
  have sw1 := hb1.size
  replace hv := hv.below hb1
  replace hb := hb.trans (hb1.mono hb.size)
  clear hg hp hb1
  generalize (⟨w.heap.size, 0, none⟩ : Addr) = p at *
  have sz0 := hb.size
  refine go ?_
  refine s_call1 (wn rfl) rfl rfl (petrieOf_any _ _ _ hv) ?_
  rintro _ w2 ⟨x, rfl, hx, hb2⟩
  have sw2 := hb2.size
  replace hv := hv.below hb2
  replace hbx := cell_below hbx hb2
  replace hb := hb.trans (hb2.mono hb.size)
  refine go ?_
  refine s_alloc (B := w2.heap.size) (wn rfl) rfl (Nat.le_refl _) (fun w3 p4 hx4 hg3 hpp4 => ?_)
  have hb3 := below_of_grownBy hg3
  refine go ?_
  refine s_storeBox (wn rfl) rfl rfl hx.sv.one hx4 (fun w4 hx4b hg4 => ?_)
  have hbq4 := hb3.trans (hx4.below_of hg4 hb3.size)
  have sw4 := hbq4.size
  replace hv := hv.below hbq4
  replace hbx := cell_below hbx hbq4
  replace hx := hx.below hbq4
  replace hb := hb.trans (hbq4.mono hb.size)
  have hc4 := hx4b.cell
  by_cases hc : petC ms = 0
  rotate_left
  · have e := spB_no hc
    have hc' : petC ms ≠ 0 := hc
    refine go ?_
    refine region_h mixed (fun w5 hc5 => ?_)
    have swr5 := hc5.size
    refine h_p 0 hc5 ?_
    refine h_p 1 hc5 ?_
    refine h_p 2 hc5 ?_
    refine h_no 3 hc5 ?_
    refine h_no 4 hc5 ?_
    refine h_no 5 hc5 ?_
    refine h_no 6 hc5 ?_
    refine h_no 7 hc5 ?_
    refine h_p 8 hc5 ?_
    refine h_p 9 hc5 ?_
    refine h_p 10 hc5 ?_
    refine h_p 11 hc5 ?_
    refine h_nil ?_
    have sw5 := hc5.size
    replace hv := hv.below hc5
    replace hbx := cell_below hbx hc5
    replace hx := hx.below hc5
    replace hc4 := cell_below hc4 hc5
    replace hb := hb.trans (hc5.mono hb.size)
    refine go ?_
    exact end_two Try.results42 rfl rfl ⟨by rw [e], hb⟩
  obtain ⟨hm, hk⟩ := petC_0 hc
  have e := spB_yes hc
  have hc' : ¬ petC ms ≠ 0 := fun h => h hc
  refine go ?_
  refine region_h mixed (fun w6 hc6 => ?_)
  have swr6 := hc6.size
  refine h_p 0 hc6 ?_
  refine h_p 1 hc6 ?_
  refine h_p 2 hc6 ?_
  refine h_p 3 hc6 ?_
  refine h_p 5 hc6 ?_
  refine h_p 9 hc6 ?_
  refine h_one 4 ?_
  refine s_call1 (wy rfl rfl rfl rfl rfl known) rfl rfl (leastForm_any _ _ _ (hv.below hc6) hm) ?_
  rintro _ w7 ⟨y, rfl, hy, hb7⟩
  have hc7 := hc6.trans (hb7.mono hc6.size)
  refine w_nil ?_
  refine h_on ⟨hc7, ?_⟩
  refine h_one 6 ?_
  refine s_call1 (wy rfl rfl rfl rfl rfl known) rfl rfl (leastForm_any _ _ _ (OM.rl (hx.below hc7)) hk) ?_
  rintro _ w8 ⟨z, rfl, hz, hb8⟩
  have hc8 := hc7.trans (hb8.mono hc7.size)
  replace hy := hy.below hb8
  refine w_nil ?_
  refine h_on ⟨hc8, ?_⟩
  refine h_one 7 ?_
  refine s_call2 (wy rfl rfl rfl rfl rfl known) rfl rfl rfl (sameManiplex_any _ _ _ _ _ hy.rl hz.rl) ?_
  rintro _ w9 ⟨rfl, hb9⟩
  have hc9 := hc8.trans (hb9.mono hc8.size)
  replace hy := hy.below hb9
  replace hz := hz.below hb9
  refine w_nil ?_
  refine h_on ⟨hc9, ?_⟩
  refine h_p 8 hc9 ?_
  refine h_p 10 hc9 ?_
  refine h_p 11 hc9 ?_
  refine h_nil ?_
  have sw9 := hc9.size
  replace hv := hv.below hc9
  replace hbx := cell_below hbx hc9
  replace hx := hx.below hc9
  replace hc4 := cell_below hc4 hc9
  replace hb := hb.trans (hc9.mono hb.size)
  refine go ?_
  exact end_two Try.results42 rfl rfl ⟨by rw [e], hb⟩

end Go.Proofs.Ytmdimdbfgibflaa
