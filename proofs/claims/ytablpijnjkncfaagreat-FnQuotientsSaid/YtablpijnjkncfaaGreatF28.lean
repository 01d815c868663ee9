/- Contracts: DeckMoves, on both sides. -/
import Derived.Test.YtablpijnjkncfaaGreatF26
namespace Go.Mem
section
variable {ms ks : List (List Int)} {xs : List Int}
noncomputable def deckL (ms ks : List (List Int)) (xs : List Int) : List (List Int) := if covC ms ks xs = 0 then deck ms xs else []
theorem deckL_no (h : covC ms ks xs ≠ 0) : deckL ms ks xs = [] := if_neg h
theorem deckL_yes (h : covC ms ks xs = 0) : deckL ms ks xs = deck ms xs := if_pos h
theorem deckL_len (ms ks : List (List Int)) (xs : List Int) : 1 + tot (deckL ms ks xs) ≤ 4000000000000000000 := by
  unfold deckL
  split
  · rename_i h
    obtain ⟨hm, _, _⟩ := covC_0 h
    have h4 := hm.m0.f400
    have hdl := deck_le (xs := xs) hm
    refine rows_tot (n := 1000) (by omega) (fun ys hy => ?_) (by omega)
    have := ((mem_auts hm).1 (List.mem_filter.1 hy).1).len
    omega
  · simp [tot]
end
end Go.Mem
namespace Go.Proofs.YtablpijnjkncfaaGreat
open Go.Mem Go.RowKit
set_option linter.unusedVariables false
set_option maxHeartbeats 8000000 in
set_option maxRecDepth 100000 in
theorem implDeckMoves_any (v : Value) (v2 : Value) (v3 : Value) (ms : List (List Int)) (ks : List (List Int)) (xs : List Int) (w : World) (hv : RL w v ms) (hv2 : RL w v2 ks) (hv3 : IL w v3 xs) :
    Ret Tryz.prog 13 #[.agg #[v], .agg #[v2], v3] w fun r w' => ∃ x, r = .tuple #[x, .int .i64 (covC ms ks xs)] ∧ OM w' w.heap.size w'.heap.size 32 2 x (deckL ms ks xs) ∧ Below w.heap.size w w' := by
  have shv := hv.sv
  have shv2 := hv2.sv
  have shv3 := hv3.sv
  have hb := Below.refl w.heap.size w
  refine enter3 19 Tryz.func13 rfl Tryz.ntmps13 rfl (fun fr => ?_)
  refine go ?_
  refine s_box (wn rfl) rfl rfl (agg_cells shv) (fun w1 hbx _ hp hg => ?_)
  have hb1 := below_of_grownBy hg
  have sw1 := hb1.size
  replace hv := hv.below hb1
  replace hv2 := hv2.below hb1
  replace hv3 := hv3.below hb1
  replace hb := hb.trans (hb1.mono hb.size)
  clear hg hp hb1
  generalize (⟨w.heap.size, 0, none⟩ : Addr) = p at *
  refine go ?_
  refine s_box (wn rfl) rfl rfl (agg_cells shv2) (fun w2 hbx2 _ hp hg => ?_)
  have hb2 := below_of_grownBy hg
  have sw2 := hb2.size
  replace hv := hv.below hb2
  replace hv2 := hv2.below hb2
  replace hv3 := hv3.below hb2
  replace hbx := cell_below hbx hb2
  replace hb := hb.trans (hb2.mono hb.size)
  clear hg hp hb2
  generalize (⟨w1.heap.size, 0, none⟩ : Addr) = p2 at *
  refine go ?_
  refine s_call3 (wn rfl) rfl rfl rfl rfl (coveringCode_any _ _ _ _ _ _ _ hv hv2 hv3) ?_
  rintro _ w3 ⟨rfl, hb3⟩
  have sw3 := hb3.size
  replace hv := hv.below hb3
  replace hv2 := hv2.below hb3
  replace hv3 := hv3.below hb3
  replace hbx := cell_below hbx hb3
  replace hbx2 := cell_below hbx2 hb3
  replace hb := hb.trans (hb3.mono hb.size)
  by_cases h : covC ms ks xs = 0
  rotate_left
  · have h2 : covC ms ks xs ≠ 0 := h
    have e := deckL_no h
    refine go ?_
    exact end_two Tryz.results13 rfl rfl ⟨.slice none 0 0, rfl, by rw [e]; exact OM.nil _ _ _ _ _, hb⟩
  obtain ⟨hm, hk, hc⟩ := covC_0 h
  have h' : ¬ (covC ms ks xs ≠ 0) := fun h' => h' h
  have e := deckL_yes h
  have hs0 := hb.size
  refine go ?_
  refine s_call2 (wn rfl) rfl rfl rfl (deckMoves_any _ _ _ _ _ hv hv3 ks hm hk hc) ?_
  rintro x w4 ⟨hx, hb4⟩
  have sw4 := hb4.size
  replace hv := hv.below hb4
  replace hv2 := hv2.below hb4
  replace hv3 := hv3.below hb4
  replace hbx := cell_below hbx hb4
  replace hbx2 := cell_below hbx2 hb4
  replace hb := hb.trans (hb4.mono hb.size)
  refine go ?_
  exact end_two Tryz.results13 rfl rfl ⟨x, by rw [h], by rw [e]; exact hx.mono hs0, hb⟩

end Go.Proofs.YtablpijnjkncfaaGreat
