/- Contracts: sources of drawn numbers; small functions of the laws. -/
import Derived.Test.YtlodnhflfijomaaWe
import Derived.Test.YtlodnhflfijomaaF31
namespace Go.Proofs.Ytlodnhflfijomaa
open Go.Mem Go.RowKit
set_option linter.unusedVariables false
set_option linter.unusedSimpArgs false
theorem cl_block {w : World} {a : Option Addr} {l cap i k : Nat} {u : Value} (h : w.cell? (addrOf (.slice a l cap) i) = some u) (hk : (Value.slice a l cap).ownBlock = some k) : k < w.heap.size := by
  cases a with
  | none => simp [Value.ownBlock] at hk
  | some a =>
    have e := addrOf_block (i := i) hk
    rw [← e]
    rcases Nat.lt_or_ge (addrOf (.slice (some a) l cap) i).block w.heap.size with hl | hl
    · exact hl
    · rw [World.cell?, Array.getElem?_eq_none hl] at h; simp at h

set_option maxHeartbeats 4000000 in
set_option maxRecDepth 100000 in
theorem l01Next_any (q : Nat) (n : Int) (B : Nat) (c : Value) (bs : List Int) (w : World) (hs : Sr w B q 140 c bs) (hn : n ≤ 9223372036854775807) :
    Ret Try.prog 105 #[.pointer (some ⟨q, 0, none⟩), .int .i64 n] w fun r w' => ∃ x : Int, r = .int .i64 x ∧ (n < 1 → x = 0) ∧ (1 ≤ n → 0 ≤ x ∧ x < n) ∧ Sr w' B q 140 c bs ∧ w.grownBy w' (some q) := by
  refine enter2 58 Try.func105 rfl Try.ntmps105 rfl (fun fr => ?_)
  by_cases hn1 : n < 1
  · refine go2 ?_
    exact end_one Try.results105 rfl ⟨0, rfl, fun _ => rfl, fun h => by omega, hs, grownBy_of_below (Below.refl _ _) _⟩
  obtain ⟨a, h0, hc0, hc1, hc2, ha, hh⟩ := hs.cells
  refine go2 ?_
  refine s_setH (wn rfl) rfl rfl hs (by omega) (fun w1 hs1 hg1 => ?_)
  clear hc0 hc1 hc2
  obtain ⟨a1, h1, hc0, hc1, hc2, ha1, hh1⟩ := hs1.cells
  have svc := hs1.cl.sv
  have scl := svc.le
  refine go2 ?_
  refine region_q mixed (by kernel_rfl) ?_
  refine qo2 ?_
  refine q_nil ?_
  intro w2 hb2
  have hg2 := gr_step hg1 (grownBy_of_below hb2 none) (fun k hk => by cases hk)
  have hs2 := hs1.below hb2
  have hc0 := cell_below hc0 hb2
  have hc1 := cell_below hc1 hb2
  have hc2 := cell_below hc2 hb2
  refine go2 ?_
  refine cond_dec rfl (fun hlt => ?_) (fun hge => ?_)
  · obtain ⟨hcb, hb0, hb1⟩ := hs2.cl.at (i := a1) ha1.1 hlt
    refine go2 ?_
    refine region_q mixed (by kernel_rfl) ?_
    refine qo2 ?_
    refine q_nil ?_
    intro w3 hb3
    have hg3 := gr_step hg2 (grownBy_of_below hb3 none) (fun k hk => by cases hk)
    have hs3 := hs2.below hb3
    have hc0 := cell_below hc0 hb3
    have hc1 := cell_below hc1 hb3
    have hc2 := cell_below hc2 hb3
    refine go2 ?_
    refine s_setA (wn rfl) rfl rfl hs3 (by omega) (fun w4 hs4 hg4 => ?_)
    have hg5 := grownBy_trans hg3 hg4
    refine go2 ?_
    exact end_one Try.results105 rfl ⟨_, rfl, fun h => by omega, fun h => ⟨Int.emod_nonneg _ (by omega), Int.emod_lt_of_pos _ (by omega)⟩, hs4, hg5⟩
  · refine go2 ?_
    exact end_one Try.results105 rfl ⟨_, rfl, fun h => by omega, fun h => ⟨Int.emod_nonneg _ (by omega), Int.emod_lt_of_pos _ (by omega)⟩, hs2, hg2⟩

set_option maxHeartbeats 4000000 in
set_option maxRecDepth 100000 in
theorem below_any (q : Nat) (n : Int) (B : Nat) (c : Value) (bs : List Int) (w : World) (hs : Sr w B q 95 c bs) (hn : n ≤ 9223372036854775807) :
    Ret Try.prog 31 #[.pointer (some ⟨q, 0, none⟩), .int .i64 n] w fun r w' => ∃ x : Int, r = .int .i64 x ∧ (n < 1 → x = 0) ∧ (1 ≤ n → 0 ≤ x ∧ x < n) ∧ Sr w' B q 95 c bs ∧ w.grownBy w' (some q) := by
  refine enter2 58 Try.func31 rfl Try.ntmps31 rfl (fun fr => ?_)
  by_cases hn1 : n < 1
  · refine go2 ?_
    exact end_one Try.results31 rfl ⟨0, rfl, fun _ => rfl, fun h => by omega, hs, grownBy_of_below (Below.refl _ _) _⟩
  obtain ⟨a, h0, hc0, hc1, hc2, ha, hh⟩ := hs.cells
  refine go2 ?_
  refine s_setH (wn rfl) rfl rfl hs (by omega) (fun w1 hs1 hg1 => ?_)
  clear hc0 hc1 hc2
  obtain ⟨a1, h1, hc0, hc1, hc2, ha1, hh1⟩ := hs1.cells
  have svc := hs1.cl.sv
  have scl := svc.le
  refine go2 ?_
  refine region_q mixed (by kernel_rfl) ?_
  refine qo2 ?_
  refine q_nil ?_
  intro w2 hb2
  have hg2 := gr_step hg1 (grownBy_of_below hb2 none) (fun k hk => by cases hk)
  have hs2 := hs1.below hb2
  have hc0 := cell_below hc0 hb2
  have hc1 := cell_below hc1 hb2
  have hc2 := cell_below hc2 hb2
  refine go2 ?_
  refine cond_dec rfl (fun hlt => ?_) (fun hge => ?_)
  · obtain ⟨hcb, hb0, hb1⟩ := hs2.cl.at (i := a1) ha1.1 hlt
    refine go2 ?_
    refine region_q mixed (by kernel_rfl) ?_
    refine qo2 ?_
    refine q_nil ?_
    intro w3 hb3
    have hg3 := gr_step hg2 (grownBy_of_below hb3 none) (fun k hk => by cases hk)
    have hs3 := hs2.below hb3
    have hc0 := cell_below hc0 hb3
    have hc1 := cell_below hc1 hb3
    have hc2 := cell_below hc2 hb3
    refine go2 ?_
    refine s_setA (wn rfl) rfl rfl hs3 (by omega) (fun w4 hs4 hg4 => ?_)
    have hg5 := grownBy_trans hg3 hg4
    refine go2 ?_
    exact end_one Try.results31 rfl ⟨_, rfl, fun h => by omega, fun h => ⟨Int.emod_nonneg _ (by omega), Int.emod_lt_of_pos _ (by omega)⟩, hs4, hg5⟩
  · refine go2 ?_
    exact end_one Try.results31 rfl ⟨_, rfl, fun h => by omega, fun h => ⟨Int.emod_nonneg _ (by omega), Int.emod_lt_of_pos _ (by omega)⟩, hs2, hg2⟩

set_option maxHeartbeats 4000000 in
set_option maxRecDepth 100000 in
theorem l01From_any (c : Value) (bs : List Int) (w : World) (hcl : CL w c bs) :
    Ret Try.prog 85 #[c] w fun r w' => ∃ q, r = .pointer (some ⟨q, 0, none⟩) ∧ Sr w' w.heap.size q 140 c bs ∧ Below w.heap.size w w' := by
  have svc := hcl.sv
  have hcle := svc.le
  obtain ⟨ca, cap, rfl, hca⟩ := svc.out
  refine enter1 38 Try.func85 rfl Try.ntmps85 rfl (fun fr => ?_)
  refine go2 ?_
  refine s_box3 (wn rfl) rfl rfl (fun w1 q hq hrow hg1 => ?_)
  have hb1 := below_of_grownBy hg1
  have hap : bs = [] ∨ ∀ k, (Value.slice ca bs.length cap).ownBlock = some k → k < w.heap.size := by
    by_cases hbs : bs = []
    · exact .inl hbs
    · refine .inr fun k hk => ?_
      have hl : 0 < bs.length := List.length_pos_iff.2 hbs
      have hcell := (hcl.at (i := 0) (by omega) (by omega)).1
      exact cl_block hcell hk
  have hs1 : Sr w1 w.heap.size q 140 (.slice ca bs.length cap) bs := ⟨by omega, ⟨0, _, hrow, by omega, by omega⟩, hcl.below hb1, hap⟩
  refine go2 ?_
  refine w_loop (fun kk fr w' => ∃ (i : Nat), kk = bs.length - i ∧ i ≤ bs.length ∧ fr 0 = .slice ca bs.length cap ∧ fr 3 = .pointer (some ⟨q, 0, none⟩) ∧ fr 4 = .int .i64 i ∧ Sr w' w.heap.size q 140 (.slice ca bs.length cap) bs ∧ Below w.heap.size w w') bs.length
    ⟨0, rfl, Nat.zero_le _, rfl, rfl, rfl, hs1, hb1⟩ ?_
  rintro kk fr w2 ⟨i, rfl, hi, f0, f3, f4, hs2, hb2⟩
  refine know (t := 0) f0 ?_; refine know (t := 3) f3 ?_; refine know (t := 4) f4 ?_
  by_cases hlt : (i : Int) < bs.length
  rotate_left
  · have hltn : ¬ ((i : Int) < bs.length) := hlt
    have hlb : decide ((i : Int) < bs.length) = !true := decide_eq_false hlt
    refine go2 ?_
    exact end_one Try.results85 rfl ⟨q, rfl, hs2, hb2⟩
  by_cases hlt2 : (i : Int) < 4096
  rotate_left
  · refine go2 ?_
    exact end_one Try.results85 rfl ⟨q, rfl, hs2, hb2⟩
  obtain ⟨a, h0, hc0, hc1, hc2, ha, hh⟩ := hs2.cells
  obtain ⟨hcb, hcb0, hcb1⟩ := hs2.cl.at (i := (i : Int)) (by omega) hlt
  refine go2 ?_
  refine region_x 15 mixed (fun w3 hc => ?_)
  have hs3 := hs2.below hc

  refine x_p 0 hc ?_
  refine x_p 1 hc ?_
  refine x_p 2 hc ?_
  refine x_p 3 hc ?_
  refine x_p 4 hc ?_
  refine x_p 5 hc ?_
  refine x_p 6 hc ?_
  refine x_p 7 hc ?_
  refine x_p 8 hc ?_
  refine x_p 9 hc ?_
  refine x_p 10 hc ?_
  refine x_p 11 hc ?_
  refine x_p 12 hc ?_
  refine x_one 13 ?_
  refine s_p (wn rfl) rfl yl2 ?_
  refine w_nil ?_
  refine x_end ⟨fun _ => hc, ?_⟩
  refine x_p 14 hc ?_
  refine x_one 15 ?_
  refine s_setH (wn rfl) rfl rfl hs3 (by omega) (fun w4 hs4 hg4 => ?_)
  have hb4 := (hb2.trans (hc.mono hb2.size)).trans ((gr_below hg4 (Nat.le_trans hb2.size hc.size) hs3.low).mono (Nat.le_refl _))
  refine w_nil ?_
  refine x_end ⟨fun h => absurd rfl h, ?_⟩
  refine x_nil ?_
  refine go2 ?_
  exact ⟨bs.length - (i + 1), by omega, i + 1, rfl, by omega, rfl, rfl, rfl, hs4, hb4⟩

set_option maxHeartbeats 4000000 in
set_option maxRecDepth 100000 in
theorem roll_any (c : Value) (bs : List Int) (sd : Int) (w : World) (hcl : CL w c bs) (hsd : 0 ≤ sd ∧ sd < 1000000) :
    Ret Try.prog 30 #[c, .int .u64 sd] w fun r w' => ∃ q, r = .pointer (some ⟨q, 0, none⟩) ∧ Sr w' w.heap.size q 95 c bs ∧ Below w.heap.size w w' := by
  have svc := hcl.sv
  have hcle := svc.le
  obtain ⟨ca, cap, rfl, hca⟩ := svc.out
  refine enter2 38 Try.func30 rfl Try.ntmps30 rfl (fun fr => ?_)
  refine go2 ?_
  refine s_box3 (wn rfl) rfl rfl (fun w1 q hq hrow hg1 => ?_)
  have hb1 := below_of_grownBy hg1
  have hap : bs = [] ∨ ∀ k, (Value.slice ca bs.length cap).ownBlock = some k → k < w.heap.size := by
    by_cases hbs : bs = []
    · exact .inl hbs
    · refine .inr fun k hk => ?_
      have hl : 0 < bs.length := List.length_pos_iff.2 hbs
      have hcell := (hcl.at (i := 0) (by omega) (by omega)).1
      exact cl_block hcell hk
  have hs1 : Sr w1 w.heap.size q 95 (.slice ca bs.length cap) bs := ⟨by omega, ⟨0, _, hrow, by omega, by omega⟩, hcl.below hb1, hap⟩
  refine go2 ?_
  refine w_loop (fun kk fr w' => ∃ (i : Nat), kk = bs.length - i ∧ i ≤ bs.length ∧ fr 0 = .slice ca bs.length cap ∧ fr 5 = .pointer (some ⟨q, 0, none⟩) ∧ fr 6 = .int .i64 i ∧ Sr w' w.heap.size q 95 (.slice ca bs.length cap) bs ∧ Below w.heap.size w w') bs.length
    ⟨0, rfl, Nat.zero_le _, rfl, rfl, rfl, hs1, hb1⟩ ?_
  rintro kk fr w2 ⟨i, rfl, hi, f0, f3, f4, hs2, hb2⟩
  refine know (t := 0) f0 ?_; refine know (t := 5) f3 ?_; refine know (t := 6) f4 ?_
  by_cases hlt : (i : Int) < bs.length
  rotate_left
  · refine go2 ?_
    exact end_one Try.results30 rfl ⟨q, rfl, hs2, hb2⟩
  
  obtain ⟨a, h0, hc0, hc1, hc2, ha, hh⟩ := hs2.cells
  obtain ⟨hcb, hcb0, hcb1⟩ := hs2.cl.at (i := (i : Int)) (by omega) hlt
  refine go2 ?_
  refine region_x 15 mixed (fun w3 hc => ?_)
  have hs3 := hs2.below hc

  refine x_p 0 hc ?_
  refine x_p 1 hc ?_
  refine x_p 2 hc ?_
  refine x_p 3 hc ?_
  refine x_p 4 hc ?_
  refine x_p 5 hc ?_
  refine x_p 6 hc ?_
  refine x_p 7 hc ?_
  refine x_p 8 hc ?_
  refine x_p 9 hc ?_
  refine x_p 10 hc ?_
  refine x_p 11 hc ?_
  refine x_p 12 hc ?_
  refine x_one 13 ?_
  refine s_p (wn rfl) rfl yl2 ?_
  refine w_nil ?_
  refine x_end ⟨fun _ => hc, ?_⟩
  refine x_p 14 hc ?_
  refine x_one 15 ?_
  refine s_setH (wn rfl) rfl rfl hs3 (by omega) (fun w4 hs4 hg4 => ?_)
  have hb4 := (hb2.trans (hc.mono hb2.size)).trans ((gr_below hg4 (Nat.le_trans hb2.size hc.size) hs3.low).mono (Nat.le_refl _))
  refine w_nil ?_
  refine x_end ⟨fun h => absurd rfl h, ?_⟩
  refine x_nil ?_
  refine go2 ?_
  exact ⟨bs.length - (i + 1), by omega, i + 1, rfl, by omega, rfl, rfl, rfl, hs4, hb4⟩

end Go.Proofs.Ytlodnhflfijomaa
