/- Contracts: DualOf, on both sides. -/
import Derived.Test.YtablpijnjkncfaaGreatF33
import Derived.Test.YtablpijnjkncfaaGreatFG
namespace Go.Mem
theorem revw_take {k i : Nat} (h : i < k) : (revw k).take (i + 1) = (revw k).take i ++ [[(k : Int) - 1 - i]] := by
  rw [List.take_succ_eq_append_getElem (by simpa [revw] using h)]
  simp [revw]
theorem revw_words {ms : List (List Int)} : ∀ w ∈ revw ms.length, IsWord ms w := fun w hw => by
  obtain ⟨i, hi, rfl⟩ := List.mem_map.1 hw
  have := List.mem_range.1 hi
  exact ⟨by simp, fun x hx => by simp at hx; subst hx; omega⟩
theorem revw_len (k : Nat) : (revw k).length = k := by simp [revw]
theorem repl_rev {ms : List (List Int)} (hm : IsMan ms) : repl ms (revw ms.length) = frm (nf ms) ms.reverse 0 := by unfold repl; rw [wds_rev hm]
end Go.Mem
namespace Go.Proofs.YtablpijnjkncfaaGreat
open Go.Mem Go.RowKit
set_option linter.unusedVariables false

set_option maxHeartbeats 8000000 in
set_option maxRecDepth 100000 in
theorem l05Dual_any (v : Value) (ms : List (List Int)) (w : World) (hv : RL w v ms) (hm : IsMan ms) :
    Ret Tryz.prog 71 #[.agg #[v]] w fun r w' => ∃ x, r = .agg #[x] ∧ OM w' w.heap.size w'.heap.size 32 2 x (frm (nf ms) ms.reverse 0) ∧ Below w.heap.size w w' := by
  have shv := hv.sv
  have hb := Below.refl w.heap.size w
  refine enter1 28 Tryz.func71 rfl Tryz.ntmps71 rfl (fun fr => ?_)
  have r5 := hm.m0.r5
  have r1 := hm.m0.r1
  have hrl := revw_len ms.length
  refine go ?_
  refine s_box (wn rfl) rfl rfl (agg_cells shv) (fun w1 hbx _ hp hg => ?_)
  have hb1 := below_of_grownBy hg
  have sw1 := hb1.size
  replace hv := hv.below hb1
  replace hb := hb.trans (hb1.mono hb.size)
  clear hg hp hb1
  generalize (⟨w.heap.size, 0, none⟩ : Addr) = p at *
  have sz0 := hb.size
  refine go ?_
  refine s_alloc (B := w.heap.size) (wn rfl) rfl (by first | exact Nat.le_refl _ | omega) (fun w2 p4 hx4 hg2 hpp4 => ?_)
  have hb2 := below_of_grownBy hg2
  have sw2 := hb2.size
  replace hv := hv.below hb2
  replace hbx := cell_below hbx hb2
  replace hb := hb.trans (hb2.mono hb.size)
  have hlt_hx4 := hx4.lt
  have sz1 := hb.size
  have sbs1 := hb.size
  have hv_b1 := hv
  have hbx_b1 := hbx
  have hx4_b1 := hx4
  have hbB1 := Below.refl w2.heap.size w2
  refine go ?_
  have szq3 := hbB1.size
  refine s_build (B := w2.heap.size) [] (wn rfl) rfl (by simp) (by decide) rfl (by simp) szq3 (fun ob w3 ho hg3 _ => ?_)
  have hb3 := below_of_grownBy hg3
  have sw3 := hb3.size
  replace hv := hv.below hb3
  replace hbx := cell_below hbx hb3
  replace hx4 := hx4.below hb3
  replace hbB1 := hbB1.trans (hb3.mono hbB1.size)
  replace ho := OM.empty (E := w3.heap.size) (U := 2) ho
  refine go ?_
  refine w_loop (fun kk fr w' => ∃ (i : Nat) (ob : Value), kk = ms.length - i ∧ i ≤ ms.length ∧ fr 1 = .pointer (some p) ∧ fr 2 = .pointer (some p4) ∧ fr 3 = ob ∧ fr 4 = .int .i64 ((ms.length : Int) - 1 - i) ∧ (OM w' w2.heap.size w'.heap.size 32 2 ob ((revw ms.length).take i)) ∧ Below w2.heap.size w2 w') (ms.length)
    ⟨0, ob, rfl, Nat.zero_le _, rfl, rfl, rfl, by show Value.int _ _ = _; congr 1; omega, ho.top, hbB1⟩ ?_
  rintro kk fr w4 ⟨i, ob, rfl, hi, f1, f2, f3, f4, ho, hbB1⟩
  have sw4 := hbB1.size
  have hv := hv_b1.below hbB1
  have hbx := cell_below hbx_b1 hbB1
  have hx4 := hx4_b1.below hbB1
  have sho := ho.sv
  refine know (t := 1) f1 ?_; refine know (t := 2) f2 ?_; refine know (t := 3) f3 ?_; refine know (t := 4) f4 ?_
  refine go ?_
  refine cond_dec rfl (fun hlt => ?_) (fun hge => ?_)
  · replace ho := ho.top
    refine go ?_
    refine s_build1 (B := w4.heap.size) (wn rfl) rfl rfl (Nat.le_refl _) (fun rb w5 hr sr5 hg5 _ => ?_)
    have hb5 := below_of_grownBy hg5
    have sw5 := hb5.size
    replace hv := hv.below hb5
    replace hbx := cell_below hbx hb5
    replace hx4 := hx4.below hb5
    replace ho := ho.below hb5
    replace hbB1 := hbB1.trans (hb5.mono hbB1.size)
    have szq6 := hbB1.size
    refine s_build1V (B := w2.heap.size) (wn rfl) rfl rfl hr.sv.one szq6 (fun tb w6 ht st hg6 _ => ?_)
    have hb6 := below_of_grownBy hg6
    have sw6 := hb6.size
    replace hv := hv.below hb6
    replace hbx := cell_below hbx hb6
    replace hx4 := hx4.below hb6
    replace ho := ho.below hb6
    replace hr := hr.below hb6
    replace hbB1 := hbB1.trans (hb6.mono hbB1.size)
    have szq7 := hbB1.size
    refine s_appendM (wn rfl) rfl rfl rfl ho ht.rd hr (by omega) (by decide) (by simp; omega) szq7 (fun ob' w7 hoN so hgN => ?_)
    replace hbB1 := hbB1.trans (ho.below_of hgN szq7)
    have sw7 := hgN.size
    replace ho := hoN
    clear hoN
    replace hv := hv_b1.below hbB1
    replace hbx := cell_below hbx_b1 hbB1
    replace hx4 := hx4_b1.below hbB1
    refine go ?_
    refine ⟨ms.length - (i + 1), by omega, i + 1, ob', rfl, by omega, rfl, rfl, rfl, by show Value.int _ _ = _; congr 1; omega, by rw [revw_take (by omega)]; exact ho, hbB1⟩
  obtain rfl : i = ms.length := by omega
  rw [List.take_of_length_le (by omega)] at ho
  refine go ?_
  refine s_call2 (wn rfl) rfl rfl rfl (l05Replace_any _ _ _ _ _ hv ho.rl hm revw_words (by omega) (by omega)) ?_
  rintro _ w8 ⟨x, rfl, hx, hb8⟩
  have sw8 := hb8.size
  replace hv := hv.below hb8
  replace hbx := cell_below hbx hb8
  replace hx4 := hx4.below hb8
  replace ho := ho.below hb8
  replace hbB1 := hbB1.trans (hb8.mono hbB1.size)
  rw [repl_rev hm] at hx
  refine go ?_
  refine s_alloc (B := w8.heap.size) (wn rfl) rfl (Nat.le_refl _) (fun w9 p5 hx5 hg9 hpp5 => ?_)
  have hb9 := below_of_grownBy hg9
  refine go ?_
  refine s_storeBox (wn rfl) rfl rfl hx.sv.one hx5 (fun w10 hx5b hg5 => ?_)
  have hbq5 := hb9.trans (hx5.below_of hg5 hb9.size)
  have sw10 := hbq5.size
  replace hv := hv.below hbq5
  replace hbx := cell_below hbx hbq5
  replace hx4 := hx4.below hbq5
  replace ho := ho.below hbq5
  replace hx := hx.below hbq5
  replace hbB1 := hbB1.trans (hbq5.mono hbB1.size)
  have hc5 := hx5b.cell
  have hbY := (hb.trans (hbB1.mono hb.size))
  refine go ?_
  refine s_storeBox (wn rfl) rfl rfl hx.sv.one hx4 (fun w11 hxz hgz => ?_)
  have hbz := hbY.trans (hx4.below_of hgz hbY.size)
  have hxN := hx.kept hgz (by omega)
  refine go ?_
  exact end_cell Tryz.results71 rfl hxz.cell ⟨x, rfl, (hxN.mono (by omega)).top, hbz⟩

end Go.Proofs.YtablpijnjkncfaaGreat
