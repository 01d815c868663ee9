/- Contracts: a maniplex's clone. -/
import Derived.Test.YtdpjjgjeodippaaGreatF98
import Derived.Test.YtdpjjgjeodippaaGreatF41
namespace Go.Mem
open Go.RowKit
set_option linter.unusedVariables false
section
variable {P : Program} {ops : Array Oper} {Q : Exit → Fm → World → Prop} {n : Nat} {f : Fm} {w : World} {rest : List Oper} {ty : TypeId} {pos : String} {after : Array Edge} {g : Option (Nat × Bool)} {d : Nat}
variable {S : World → Prop} {fuel : Nat} {listed : Array Bool}
theorem WL.mono2 {o : Oper} {Q' : Exit → Fm → World → Prop} (h : WL P ops Q [o] n f w) (hq : ∀ e f w, Q e f w → Q' e f w) : WL P ops Q' [o] n f w := by
  have hk := h.out
  have hl : ∀ e a w, lift n Q e a w → lift n Q' e a w := by
    rintro e a w ⟨h1, f, h2, h3⟩
    exact ⟨h1, f, h2, hq _ _ _ h3⟩
  refine ⟨?_⟩
  unfold wpList at hk ⊢
  have hnext : ∀ a w, wpList P ops (lift n Q) [] a w → wpList P ops (lift n Q') [] a w := fun a w h => hl _ _ _ h
  split
  · rename_i hw
    rw [if_pos hw] at hk
    rcases hk with hk | ⟨h1, a, w, h2⟩
    · exact .inl (wp_exits hnext (fun c a w h => absurd rfl (h.1 c)) (fun a w h => hl _ _ _ h) hk)
    · exact .inr ⟨h1, a, w, hl _ _ _ h2⟩
  · rename_i hw
    rw [if_neg hw] at hk
    exact hnext _ _ hk

theorem WH.fn_eq {f' : Fm} (e : f.fn = f'.fn) (h : WH P ops S Q fuel listed n f w) : WH P ops S Q fuel listed n f' w := by
  obtain ⟨h⟩ := h
  exact ⟨by rw [← e]; exact h⟩
theorem upd3 {d d2 d3 : Nat} {v v2 v3 : Value} (h1 : d ≠ d2) (h2 : d ≠ d3) (h3 : d2 ≠ d3) : (Fm.upd (.upd (.upd f d v) d2 v2) d3 v3).fn = (Fm.upd (.upd (.upd f d2 v2) d v) d3 v3).fn ∧
    (Fm.upd (.upd (.upd f d v) d2 v2) d3 v3).fn = (Fm.upd (.upd (.upd f d2 v2) d3 v3) d v).fn := by
  constructor
  · funext t
    show (if t = d3 then v3 else if t = d2 then v2 else if t = d then v else f.fn t) = (if t = d3 then v3 else if t = d then v else if t = d2 then v2 else f.fn t)
    repeat' split
    all_goals first | rfl | omega
  · funext t
    show (if t = d3 then v3 else if t = d2 then v2 else if t = d then v else f.fn t) = (if t = d then v else if t = d3 then v3 else if t = d2 then v2 else f.fn t)
    repeat' split
    all_goals first | rfl | omega
/-- two steps in order, and a third that may come up at any time beside them -/
theorem h_tri (i i2 i3 d d2 d3 : Nat) {o o2 o3 : Oper} (J : Value → Value → Value → World → Prop)
    (k1 : WL P ops (seqP (fun f' w' => S w' ∧ ∃ v, f' = .upd f d v ∧ WL P ops (seqP (fun f2 w2 => S w2 ∧ ∃ v2, f2 = .upd (.upd f d v) d2 v2 ∧ WL P ops (seqP (fun f3 w3 => S w3 ∧ ∃ v3, f3 = .upd (.upd (.upd f d v) d2 v2) d3 v3 ∧ J v v2 v3 w3) Q) [o3] n (.upd (.upd f d v) d2 v2) w2) Q) [o2] n (.upd f d v) w') Q) [o] n f w)
    (k2 : WL P ops (seqP (fun f' w' => S w' ∧ ∃ v2, f' = .upd f d2 v2 ∧
      WL P ops (seqP (fun f2 w2 => S w2 ∧ ∃ v, f2 = .upd (.upd f d2 v2) d v ∧ WL P ops (seqP (fun f3 w3 => S w3 ∧ ∃ v3, f3 = .upd (.upd (.upd f d2 v2) d v) d3 v3 ∧ J v v2 v3 w3) Q) [o3] n (.upd (.upd f d2 v2) d v) w2) Q) [o] n (.upd f d2 v2) w' ∧
      WL P ops (seqP (fun f2 w2 => S w2 ∧ ∃ v3, f2 = .upd (.upd f d2 v2) d3 v3 ∧ WL P ops (seqP (fun f3 w3 => S w3 ∧ ∃ v, f3 = .upd (.upd (.upd f d2 v2) d3 v3) d v ∧ J v v2 v3 w3) Q) [o] n (.upd (.upd f d2 v2) d3 v3) w2) Q) [o3] n (.upd f d2 v2) w') Q) [o2] n f w)
    (hJ : ∀ v v2 v3 w', S w' → J v v2 v3 w' → WH P ops S Q fuel (((listed.setIfInBounds i true).setIfInBounds i2 true).setIfInBounds i3 true) n (.upd (.upd (.upd f d v) d2 v2) d3 v3) w')
    (h1 : d ≠ d2 := by decide) (h2 : d ≠ d3 := by decide) (h3 : d2 ≠ d3 := by decide) (hi : ops[i]? = some o := by rfl) (hi2 : ops[i2]? = some o2 := by rfl) (hi3 : ops[i3]? = some o3 := by rfl)
    (hr : Region.ready .any ops listed = [i, i2] := by kernel_rfl) (hr1 : Region.ready .any ops (listed.setIfInBounds i true) = [i2] := by kernel_rfl)
    (hr12 : Region.ready .any ops ((listed.setIfInBounds i true).setIfInBounds i2 true) = [i3] := by kernel_rfl)
    (hr2 : Region.ready .any ops (listed.setIfInBounds i2 true) = [i, i3] := by kernel_rfl) (hr21 : Region.ready .any ops ((listed.setIfInBounds i2 true).setIfInBounds i true) = [i3] := by kernel_rfl)
    (hr23 : Region.ready .any ops ((listed.setIfInBounds i2 true).setIfInBounds i3 true) = [i] := by kernel_rfl)
    (e1 : ((listed.setIfInBounds i2 true).setIfInBounds i true).setIfInBounds i3 true = ((listed.setIfInBounds i true).setIfInBounds i2 true).setIfInBounds i3 true := by kernel_rfl)
    (e2 : ((listed.setIfInBounds i2 true).setIfInBounds i3 true).setIfInBounds i true = ((listed.setIfInBounds i true).setIfInBounds i2 true).setIfInBounds i3 true := by kernel_rfl) : WH P ops S Q (fuel + 3) listed n f w := by
  refine h_two i i2 (k1.mono2 fun e f' w' hq => ?_) (k2.mono2 fun e f' w' hq => ?_) hi hi2 hr
  · cases e with
    | normal =>
      obtain ⟨hs, v, rfl, h⟩ := hq
      refine ⟨hs, h_one i2 (h.mono2 fun e f' w' hq => ?_) hi2 hr1⟩
      cases e with
      | normal =>
        obtain ⟨hs, v2, rfl, h⟩ := hq
        refine ⟨hs, h_one i3 (h.mono2 fun e f' w' hq => ?_) hi3 hr12⟩
        cases e with
        | normal => obtain ⟨hs, v3, rfl, h⟩ := hq; exact ⟨hs, hJ _ _ _ _ hs h⟩
        | _ => exact hq
      | _ => exact hq
    | _ => exact hq
  · cases e with
    | normal =>
      obtain ⟨hs, v2, rfl, ha, hb⟩ := hq
      refine ⟨hs, h_two i i3 (ha.mono2 fun e f' w' hq => ?_) (hb.mono2 fun e f' w' hq => ?_) hi hi3 hr2⟩
      · cases e with
        | normal =>
          obtain ⟨hs, v, rfl, h⟩ := hq
          refine ⟨hs, h_one i3 (h.mono2 fun e f' w' hq => ?_) hi3 hr21⟩
          cases e with
          | normal => obtain ⟨hs, v3, rfl, h⟩ := hq; exact ⟨hs, by rw [e1]; exact (hJ _ _ _ _ hs h).fn_eq (upd3 h1 h2 h3).1⟩
          | _ => exact hq
        | _ => exact hq
      · cases e with
        | normal =>
          obtain ⟨hs, v3, rfl, h⟩ := hq
          refine ⟨hs, h_one i (h.mono2 fun e f' w' hq => ?_) hi hr23⟩
          cases e with
          | normal => obtain ⟨hs, v, rfl, h⟩ := hq; exact ⟨hs, by rw [e2]; exact (hJ _ _ _ _ hs h).fn_eq (upd3 h1 h2 h3).2⟩
          | _ => exact hq
        | _ => exact hq
    | _ => exact hq
end
end Go.Mem
namespace Go.Proofs.YtdpjjgjeodippaaGreat
open Go.Mem Go.RowKit
set_option linter.unusedVariables false
set_option linter.unusedSimpArgs false
set_option maxRecDepth 100000 in
theorem CloneI2_any (v : Value) (xs : List Int) (w : World) (hv : IL w v xs) (hl : xs.length ≤ 1000000) :
    Ret Tryz.prog 76 #[v] w fun r w' => OI w' w.heap.size 2 r xs ∧ Below w.heap.size w w' := by
  have sv := hv.sv
  refine enter1 8 Tryz.func76 rfl Tryz.ntmps76 rfl (fun fr => ?_)
  refine go ?_
  cases hn : nilV v with
  | true =>
    have hx : xs = [] := by
      by_cases h : xs.length = 0
      · exact List.length_eq_zero_iff.1 h
      · rw [nilV_of sv h] at hn; simp at hn
    subst hx
    refine go ?_
    exact end_one Tryz.results76 rfl ⟨OI.nil _ _ _, Below.refl _ _⟩
  | false =>
    refine go ?_
    refine s_build0 (B := w.heap.size) (wn rfl) rfl (Nat.le_refl _) (fun ob w1 ho so hg1 _ => ?_)
    have hb1 := below_of_grownBy hg1
    have hv := hv.below hb1
    have h1 := hb1.size
    refine go ?_
    refine s_appendI (wn rfl) rfl rfl rfl ho hv (by simp; omega) h1 (fun ob' w2 ho2 so2 hg2 _ => ?_)
    have hb2 := hb1.trans (ho.below_of hg2 h1)
    refine go ?_
    exact end_one Tryz.results76 rfl ⟨by simpa using ho2, hb2⟩


set_option maxHeartbeats 8000000 in
set_option maxRecDepth 100000 in
theorem cloneManiplex_any (v : Value) (ms : List (List Int)) (w : World) (hv : RL w v ms) (hm : ms.length ≤ 1000) (hr : ∀ xs ∈ ms, xs.length ≤ 1000000) :
    Ret Tryz.prog 52 #[.agg #[v]] w fun r w' => ∃ x, r = .agg #[x] ∧ OM w' w.heap.size w'.heap.size 38 2 x ms ∧ Below w.heap.size w w' := by
  have shv := hv.sv
  have hb := Below.refl w.heap.size w
  refine enter1 22 Tryz.func52 rfl Tryz.ntmps52 rfl (fun fr => ?_)
  refine go ?_
  refine s_box (wn rfl) rfl rfl (agg_cells shv) (fun w1 hbx _ hp hg => ?_)
  have hb1 := below_of_grownBy hg
  have sw1 := hb1.size
  replace hv := hv.below hb1
  replace hb := hb.trans (hb1.mono hb.size)
  clear hg hp hb1
  generalize (⟨w.heap.size, 0, none⟩ : Addr) = p at *
  have sz0 := hb.size
  refine go ?_
  refine s_alloc (B := w.heap.size) (wn rfl) rfl (by first | exact Nat.le_refl _ | omega) (fun w2 p4 hx4 hg2 hpp4 => ?_)
  have hb2 := below_of_grownBy hg2
  have sw2 := hb2.size
  replace hv := hv.below hb2
  replace hbx := cell_below hbx hb2
  replace hb := hb.trans (hb2.mono hb.size)
  have hlt_hx4 := hx4.lt
  have sz1 := hb.size
  have sbs1 := hb.size
  have hv_b1 := hv
  have hbx_b1 := hbx
  have hx4_b1 := hx4
  have hbB1 := Below.refl w2.heap.size w2
  refine go ?_
  refine s_alloc (B := w2.heap.size) (wn rfl) rfl (by first | exact Nat.le_refl _ | omega) (fun w3 p5 hx5 hg3 hpp5 => ?_)
  have hb3 := below_of_grownBy hg3
  have sw3 := hb3.size
  replace hv := hv.below hb3
  replace hbx := cell_below hbx hb3
  replace hx4 := hx4.below hb3
  replace hbB1 := hbB1.trans (hb3.mono hbB1.size)
  have hlt_hx5 := hx5.lt
  refine go ?_
  refine w_loop (fun kk fr w' => ∃ (i : Nat) (ob : Value), kk = ms.length - i ∧ i ≤ ms.length ∧ fr 2 = .pointer (some p4) ∧ fr 3 = .pointer (some p5) ∧ fr 7 = v ∧ fr 8 = .int .i64 ms.length ∧ fr 9 = .int .i64 i ∧ (Bx w' w2.heap.size p5 29 ob) ∧ (OM w' w3.heap.size w'.heap.size 38 2 ob (ms.take i)) ∧ (w3.heap.size ≤ w'.heap.size) ∧ Below w2.heap.size w2 w') (ms.length)
    ⟨0, _, rfl, Nat.zero_le _, rfl, rfl, rfl, rfl, rfl, hx5, OM.nil _ _ _ _ _, Nat.le_refl _, hbB1⟩ ?_
  rintro kk fr w4 ⟨i, ob, rfl, hi, f2, f3, f7, f8, f9, hx5, ho, hge5, hbB1⟩
  have sw4 := hbB1.size
  have hv := hv_b1.below hbB1
  have hbx := cell_below hbx_b1 hbB1
  have hx4 := hx4_b1.below hbB1
  have sho := ho.sv
  refine know (t := 2) f2 ?_; refine know (t := 3) f3 ?_; refine know (t := 7) f7 ?_; refine know (t := 8) f8 ?_; refine know (t := 9) f9 ?_
  refine go ?_
  refine cond_dec rfl (fun hlt => ?_) (fun hge => ?_)
  · have hil : i < ms.length := by omega
    have hrl := hr _ (gr_in hil)
    obtain ⟨u, hu, hcu⟩ := hv.row (j := (i : Int)) (by omega) hlt
    have su := hu.sv
    have hc5 := hx5.cell
    refine go ?_
    refine region_hS (fun w' => Below w2.heap.size w2 w') mixed (fun w5 hb5 => ?_)
    have sw5 := hb5.size
    replace hv := hv.below hb5
    replace hbx := cell_below hbx hb5
    replace hx4 := hx4.below hb5
    replace ho := ho.below hb5
    replace hx5 := hx5.below hb5
    replace hu := hu.below hb5
    replace hcu := cell_below hcu hb5
    replace hc5 := cell_below hc5 hb5
    replace hbB1 := hbB1.trans (hb5.mono hbB1.size)
    refine h_p 0 hbB1 ?_
    refine h_p 2 hbB1 ?_
    refine h_tri 1 3 4 14 16 17 (fun a b e w' => a = ob ∧ OI w' w5.heap.size 2 b (gr ms i) ∧ Own w' w2.heap.size 38 e [b] ∧ Below w5.heap.size w5 w') ?_ ?_ ?_
    · refine s_p (wn rfl) rfl (y_ldc rfl hc5) ?_
      refine w_nil ?_
      refine ⟨hbB1, _, rfl, ?_⟩
      refine s_call1 (wn rfl) rfl rfl (CloneI2_any _ _ _ hu (by omega)) ?_
      rintro _ wk ⟨hk1, hk2⟩
      refine w_nil ?_
      have hbk := hbB1.trans (hk2.mono hbB1.size)
      refine ⟨hbk, _, rfl, ?_⟩
      refine s_build1V (B := w2.heap.size) (wn rfl) rfl rfl hk1.sv.one (by have := hbk.size; omega) (fun tb wt ht st hgt _ => ?_)
      refine w_nil ?_
      have hbt := below_of_grownBy hgt
      have hbk2 := hbk.trans (hbt.mono hbk.size)
      exact ⟨hbk2, _, rfl, ⟨rfl, hk1.below hbt, ht, hk2.trans (hbt.mono hk2.size)⟩⟩
    · refine s_call1 (wn rfl) rfl rfl (CloneI2_any _ _ _ hu (by omega)) ?_
      rintro _ wk ⟨hk1, hk2⟩
      refine w_nil ?_
      have hbk := hbB1.trans (hk2.mono hbB1.size)
      refine ⟨hbk, _, rfl, ?_, ?_⟩
      · refine s_p (wn rfl) rfl (y_ldc rfl (cell_below hc5 hk2)) ?_
        refine w_nil ?_
        refine ⟨hbk, _, rfl, ?_⟩
        refine s_build1V (B := w2.heap.size) (wn rfl) rfl rfl hk1.sv.one (by have := hbk.size; omega) (fun tb wt ht st hgt _ => ?_)
        refine w_nil ?_
        have hbt := below_of_grownBy hgt
        have hbk2 := hbk.trans (hbt.mono hbk.size)
        exact ⟨hbk2, _, rfl, ⟨rfl, hk1.below hbt, ht, hk2.trans (hbt.mono hk2.size)⟩⟩
      · refine s_build1V (B := w2.heap.size) (wn rfl) rfl rfl hk1.sv.one (by have := hbk.size; omega) (fun tb wt ht st hgt _ => ?_)
        refine w_nil ?_
        have hbt := below_of_grownBy hgt
        have hbk2 := hbk.trans (hbt.mono hbk.size)
        refine ⟨hbk2, _, rfl, ?_⟩
        refine s_p (wn rfl) rfl (y_ldc rfl (cell_below hc5 (hk2.trans (hbt.mono hk2.size)))) ?_
        refine w_nil ?_
        exact ⟨hbk2, _, rfl, ⟨rfl, hk1.below hbt, ht, hk2.trans (hbt.mono hk2.size)⟩⟩
    rintro _ rb tb w6 _ ⟨rfl, hr1, ht, hb6⟩
    have sw6 := hb6.size
    replace hv := hv.below hb6
    replace hbx := cell_below hbx hb6
    replace hx4 := hx4.below hb6
    replace ho := ho.below hb6
    replace hx5 := hx5.below hb6
    replace hu := hu.below hb6
    replace hcu := cell_below hcu hb6
    replace hc5 := cell_below hc5 hb6
    replace hbB1 := hbB1.trans (hb6.mono hbB1.size)
    replace hr1 := hr1.mono (B' := w4.heap.size) (by omega)
    refine h_one 5 ?_
    have szq7 := hbB1.size
    refine s_appendM (wn rfl) rfl rfl rfl ho ht.rd hr1 (by omega) (by decide) (by simp; omega) (by omega) (fun ob' w7 hoN so hgN => ?_)
    have sw7 := hgN.size
    replace hbB1 := hbB1.trans ((ho.below_of hgN (by omega)).mono (by omega))
    replace hx5 := hx5.kept hgN (by intro e; have := (ho.ownlt _ e).1; omega)
    replace ho := hoN
    clear hoN
    replace hv := hv_b1.below hbB1
    replace hbx := cell_below hbx_b1 hbB1
    replace hx4 := hx4_b1.below hbB1
    refine w_nil ?_
    refine h_on ⟨hbB1, ?_⟩
    refine h_p 6 hbB1 ?_
    refine h_one 7 ?_
    refine s_storeFld (wn rfl) rfl rfl so.one hx5 (fun w8 hxN hgN => ?_)
    have sw8 := hgN.size
    replace hbB1 := hbB1.trans (hx5.below_of hgN (by omega))
    replace ho := (ho.kept hgN (by omega)).top
    replace hx5 := hxN
    clear hxN
    replace hv := hv_b1.below hbB1
    replace hbx := cell_below hbx_b1 hbB1
    replace hx4 := hx4_b1.below hbB1
    refine w_nil ?_
    refine h_on ⟨hbB1, ?_⟩
    refine h_nil ?_
    refine go ?_
    refine ⟨ms.length - (i + 1), by omega, i + 1, ob', rfl, by omega, rfl, rfl, rfl, rfl, rfl, hx5, by rw [take_gr hil]; exact ho, by omega, hbB1⟩
  obtain rfl : i = ms.length := by omega
  rw [List.take_length] at ho
  have hcx := hx5.cell
  have hx := ho
  refine go ?_
  have hbY := (hb.trans (hbB1.mono hb.size))
  refine go ?_
  refine s_storeBox (wn rfl) rfl rfl hx.sv.one hx4 (fun w9 hxz hgz => ?_)
  have hbz := hbY.trans (hx4.below_of hgz hbY.size)
  have hxN := hx.kept hgz (by omega)
  refine go ?_
  exact end_cell Tryz.results52 rfl hxz.cell ⟨ob, rfl, (hxN.mono (by omega)).top, hbz⟩

end Go.Proofs.YtdpjjgjeodippaaGreat
