/- Contracts: CountAutomorphisms, on both sides; the law. -/
import Derived.Test.YtfdjcleodeocoaaF10
namespace Go.Proofs.Ytfdjcleodeocoaa
open Go.Mem Go.RowKit

/-- the code of one maniplex -/
noncomputable def manCode (ms : List (List Int)) : Int := if IsMan ms then 0 else 1
noncomputable def cntAut (ms : List (List Int)) : Int := if IsMan ms then ((covers ms ms (nf ms)).length : Nat) else 0

theorem specCountAutomorphisms_any (v : Value) (ms : List (List Int)) (w : World) (hv : RL w v ms) :
    Ret Try.prog 11 #[.agg #[v]] w fun r w' => r = .tuple #[.int .i64 (cntAut ms), .int .i64 (manCode ms)] ∧ Below w.heap.size w w' := by
  have sv := hv.sv
  refine enter1 10 Try.func11 rfl Try.ntmps11 rfl (fun fr => ?_)
  refine go ?_
  refine s_box (wn rfl) rfl rfl (agg_cells sv) (fun w1 hbx _ hp1 hg => ?_)
  have hb := below_of_grownBy hg
  have hv := hv.below hb
  generalize hpe : (⟨w.heap.size, 0, none⟩ : Addr) = p at *
  refine go ?_
  refine s_call1 (wn rfl) rfl rfl (l02Is_any _ _ _ hv) ?_
  rintro _ w2 ⟨rfl, hb2⟩
  have hb := hb.trans (hb2.mono hb.size)
  have hbx := cell_below hbx hb2
  have hv := hv.below hb2
  refine splitb (decide (IsMan ms)) (fun hm => ?_) (fun hm => ?_)
  · have hm' := of_decide_eq_true hm
    refine go ?_
    refine s_call1 (wn rfl) rfl rfl (l06All_any _ _ _ hv hm') ?_
    rintro r w3 ⟨hr, hb3⟩
    have sr := hr.sv
    refine go ?_
    exact end_two Try.results11 rfl rfl ⟨by unfold cntAut manCode; rw [if_pos hm', if_pos hm'], hb.trans (hb3.mono hb.size)⟩
  · have hm' := of_decide_eq_false hm
    refine go ?_
    exact end_two Try.results11 rfl rfl ⟨by unfold cntAut manCode; rw [if_neg hm', if_neg hm'], hb⟩

theorem implCountAutomorphisms_any (v : Value) (ms : List (List Int)) (w : World) (hv : RL w v ms) :
    Ret Try.prog 13 #[.agg #[v]] w fun r w' => r = .tuple #[.int .i64 (cntAut ms), .int .i64 (manCode ms)] ∧ Below w.heap.size w w' := by
  have sv := hv.sv
  refine enter1 11 Try.func13 rfl Try.ntmps13 rfl (fun fr => ?_)
  refine go ?_
  refine s_box (wn rfl) rfl rfl (agg_cells sv) (fun w1 hbx _ hp1 hg => ?_)
  have hb := below_of_grownBy hg
  have hv := hv.below hb
  generalize hpe : (⟨w.heap.size, 0, none⟩ : Addr) = p at *
  refine go ?_
  refine s_call1 (wn rfl) rfl rfl (isManiplex_any _ _ _ hv) ?_
  rintro _ w2 ⟨rfl, hb2⟩
  have hb := hb.trans (hb2.mono hb.size)
  have hbx := cell_below hbx hb2
  have hv := hv.below hb2
  refine splitb (decide (IsMan ms)) (fun hm => ?_) (fun hm => ?_)
  · have hm' := of_decide_eq_true hm
    refine go ?_
    refine s_call2 (wn rfl) rfl rfl rfl (coveringsOf_any _ _ _ _ _ hv hv hm' hm') ?_
    rintro r w3 ⟨hr, hb3⟩
    have sr := hr.sv
    refine go ?_
    refine s_call1 (wn rfl) rfl rfl (sizeR_any _ _ _ sr) ?_
    rintro _ _ ⟨rfl, rfl⟩
    refine go ?_
    exact end_two Try.results13 rfl rfl ⟨by unfold cntAut manCode; rw [if_pos hm', if_pos hm'], hb.trans (hb3.mono hb.size)⟩
  · have hm' := of_decide_eq_false hm
    refine go ?_
    exact end_two Try.results13 rfl rfl ⟨by unfold cntAut manCode; rw [if_neg hm', if_neg hm'], hb⟩

set_option maxHeartbeats 8000000 in
theorem lawCountAutomorphisms_any (v : Value) (ms : List (List Int)) (w : World) (hv : RL w v ms) :
    Ret Try.prog 3 #[.agg #[v]] w fun r w' => r = .bool true ∧ Below w.heap.size w w' := by
  have sv := hv.sv
  refine enter1 40 Try.func3 rfl Try.ntmps3 rfl (fun fr => ?_)
  refine go ?_
  refine s_box (wn rfl) rfl rfl (agg_cells sv) (fun w1 hbx _ hp1 hg => ?_)
  have hb := below_of_grownBy hg
  have hv := hv.below hb
  generalize hpe : (⟨w.heap.size, 0, none⟩ : Addr) = p at *
  refine go ?_
  refine s_call2 (wn rfl) rfl rfl rfl (szManiplex_any _ _ _ _ hv (by omega)) ?_
  rintro _ w2 ⟨⟨z, rfl, hz⟩, hb2⟩
  have hb := hb.trans (hb2.mono hb.size)
  have hbx := cell_below hbx hb2
  have hv := hv.below hb2
  refine go ?_
  refine cond_dec rfl (fun h => ?_) (fun h => ?_)
  · refine go ?_
    exact end_one Try.results3 rfl ⟨rfl, hb⟩
  obtain ⟨hlen, hrows⟩ := hz.all (by omega)
  have hlen : ms.length ≤ 1048576 := by omega
  have hrows : ∀ xs ∈ ms, xs.length ≤ 1048576 := fun xs hx => by have := hrows xs hx; omega
  refine go ?_
  refine s_call1 (wn rfl) rfl rfl (toManiplex_any _ _ _ hv hlen hrows) ?_
  rintro _ w3 ⟨u, rfl, hu, hb3⟩
  have hb := hb.trans (hb3.mono hb.size)
  have hbx := cell_below hbx hb3
  have hv := hv.below hb3
  refine go ?_
  refine s_call1 (wn rfl) rfl rfl (specCountAutomorphisms_any _ _ _ hu.rl) ?_
  rintro _ w4 ⟨rfl, hb4⟩
  have hb := hb.trans (hb4.mono hb.size)
  have hbx := cell_below hbx hb4
  have hv := hv.below hb4
  clear hu
  refine go ?_
  refine s_call1 (wn rfl) rfl rfl (toManiplex_any _ _ _ hv hlen hrows) ?_
  rintro _ w5 ⟨u, rfl, hu, hb5⟩
  have hb := hb.trans (hb5.mono hb.size)
  have hbx := cell_below hbx hb5
  have hv := hv.below hb5
  refine s_alloc (B := w5.heap.size) (wn rfl) rfl (Nat.le_refl _) (fun w6 p2 hx2 hg6 hp2 => ?_)
  have hb6 := below_of_grownBy hg6
  refine go ?_
  refine s_storeBox (wn rfl) rfl rfl hu.sv.one hx2 (fun w7 hx7 hg7 => ?_)
  have hb57 := hb6.trans (hx2.below_of hg7 hb6.size)
  have hu := hu.below hb57
  have hbx := cell_below hbx hb57
  have hv := hv.below hb57
  have hb := hb.trans (hb57.mono hb.size)
  have hc := hx7.cell
  refine go ?_
  refine s_call1 (wn rfl) rfl rfl (implCountAutomorphisms_any _ _ _ hu.rl) ?_
  rintro _ w8 ⟨rfl, hb8⟩
  have hu := hu.below hb8
  have hbx := cell_below hbx hb8
  have hc := cell_below hc hb8
  have hv := hv.below hb8
  have hb := hb.trans (hb8.mono hb.size)
  have hn1 : ¬ (cntAut ms ≠ cntAut ms) := by simp
  have hn2 : ¬ (manCode ms ≠ manCode ms) := by simp
  have hms : decide (ms = ms) = true := by simp
  refine go ?_
  refine region_h mixed (fun w9 hb9 => ?_)
  refine h_p 0 hb9 ?_
  refine h_p 1 hb9 ?_
  refine h_one 2 ?_
  refine s_call1 (wn rfl) rfl rfl (toManiplex_any _ _ _ (hv.below hb9) hlen hrows) ?_
  rintro _ w10 ⟨u2, rfl, hu2, hb10⟩
  have hb10 := hb9.trans (hb10.mono hb9.size)
  refine w_nil ?_
  refine h_on ⟨hb10, ?_⟩
  refine h_one 3 ?_
  refine s_call2 (wn rfl) rfl rfl rfl (eqManiplex_any _ _ _ _ _ (hu.below hb10).rl hu2.rl) ?_
  rintro _ w11 ⟨rfl, hb11⟩
  have hb11 := hb10.trans (hb11.mono hb10.size)
  refine w_nil ?_
  refine h_on ⟨hb11, ?_⟩
  refine h_p 4 hb11 ?_
  refine h_nil ?_
  refine go ?_
  exact end_one Try.results3 rfl ⟨rfl, hb.trans (hb11.mono hb.size)⟩
end Go.Proofs.Ytfdjcleodeocoaa
