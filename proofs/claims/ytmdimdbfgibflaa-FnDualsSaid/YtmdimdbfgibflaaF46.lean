/- Contracts: PetrieLengths, WordPeriod, on both sides. -/
import Derived.Test.YtmdimdbfgibflaaF45
namespace Go.Mem
open Go.RowKit
/-- u lies elsewhere than v -/
def Ap (u v : Value) : Prop := u.ownBlock = none ∨ u.ownBlock ≠ v.ownBlock
theorem Ap.symm {u v : Value} (h : Ap u v) : Ap v u := by
  unfold Ap at *
  cases hv : v.ownBlock with
  | none => exact .inl rfl
  | some g =>
    refine .inr fun e => ?_
    rcases h with h | h
    · rw [h] at e; exact absurd e (by simp)
    · exact h (by rw [hv]; exact e.symm)
theorem Ap.grow {u v v' : Value} {n : Nat} (h : Ap u v) (hu : ∀ g, u.ownBlock = some g → g < n) (hv : v'.ownBlock = v.ownBlock ∨ v'.ownBlock = some n) : Ap u v' := by
  rcases hv with hv | hv
  · unfold Ap; rw [hv]; exact h
  · unfold Ap
    cases hu' : u.ownBlock with
    | none => exact .inl rfl
    | some g =>
      refine .inr fun e => ?_
      rw [hv] at e
      have := hu g hu'
      have := Option.some.inj e
      omega
theorem Ap.new {u v : Value} {n : Nat} (hu : ∀ g, u.ownBlock = some g → g < n) (hv : v.ownBlock = some n) : Ap u v := by
  unfold Ap
  cases hu' : u.ownBlock with
  | none => exact .inl rfl
  | some g =>
    refine .inr fun e => ?_
    rw [hv] at e
    have := hu g hu'
    have := Option.some.inj e
    omega
theorem OM.kept' {w w' : World} {B E : Nat} {T U : TypeId} {v u : Value} {xss : List (List Int)} (h : OM w B E T U v xss) (hg : w.grownBy w' u.ownBlock) (hu : ∀ g, u.ownBlock = some g → g < B) : OM w' B E T U v xss := by
  cases hq : u.ownBlock with
  | none => rw [hq] at hg; exact h.below (below_of_grownBy hg)
  | some g => rw [hq] at hg; exact h.kept hg (hu g hq)
theorem take_gr' {xss : List (List Int)} {i : Nat} (h : i < xss.length) : xss.take (i + 1) = xss.take i ++ [gr xss i] := by
  rw [List.take_succ_eq_append_getElem h]; simp [gr, List.getD, h]
theorem per_take (n : Nat) (p : List Int) (i : Nat) : (List.range (i + 1)).map (fun f : Nat => (per n p f : Int)) = (List.range i).map (fun f : Nat => (per n p f : Int)) ++ [(per n p i : Int)] := by simp [List.range_succ]
end Go.Mem
namespace Go.Proofs.Ytmdimdbfgibflaa
open Go.Mem Go.RowKit
set_option linter.unusedVariables false
set_option linter.unusedSimpArgs false
set_option maxHeartbeats 8000000 in
set_option maxRecDepth 100000 in
theorem specWordPeriod_any (v : Value) (v2 : Value) (ms : List (List Int)) (wd : List Int) (w : World) (hv : RL w v ms) (hv2 : IL w v2 wd) :
    Ret Try.prog 55 #[.agg #[v], v2] w fun r w' => r = .tuple #[.int .i64 (wpN ms wd), .int .i64 (wpC ms wd)] ∧ Below w.heap.size w w' := by
  have shv := hv.sv
  have shv2 := hv2.sv
  have hb := Below.refl w.heap.size w
  refine enter2 24 Try.func55 rfl Try.ntmps55 rfl (fun fr => ?_)
  refine go ?_
  refine s_box (wn rfl) rfl rfl (agg_cells shv) (fun w1 hbx _ hp hg => ?_)
  have hb1 := below_of_grownBy hg
  have sw1 := hb1.size
  replace hv := hv.below hb1
  replace hv2 := hv2.below hb1
  replace hb := hb.trans (hb1.mono hb.size)
  clear hg hp hb1
  generalize (⟨w.heap.size, 0, none⟩ : Addr) = p at *
  refine go ?_
  refine s_call2 (wn rfl) rfl rfl rfl (l08Word_any _ _ _ _ _ hv hv2) ?_
  rintro _ w2 ⟨rfl, hb2⟩
  have sw2 := hb2.size
  replace hv := hv.below hb2
  replace hv2 := hv2.below hb2
  replace hbx := cell_below hbx hb2
  replace hb := hb.trans (hb2.mono hb.size)
  by_cases hc : wordC ms wd = 0
  rotate_left
  · have hc' : wordC ms wd ≠ 0 := hc
    have e := wp_1 hc
    refine go ?_
    exact end_two Try.results55 rfl rfl ⟨by rw [e.1, e.2], hb⟩
  have hc' : ¬ wordC ms wd ≠ 0 := fun h => h hc
  obtain ⟨hm, hw⟩ := wordC_0 hc
  have hpm := does_pm hm hw
  have f4 := hm.m0.f400
  refine go ?_
  refine s_build1V (B := w2.heap.size) (wn rfl) rfl rfl hv2.sv.one (Nat.le_refl _) (fun wb w3 hwb swb hg3 _ => ?_)
  have hb3 := below_of_grownBy hg3
  have sw3 := hb3.size
  replace hv := hv.below hb3
  replace hv2 := hv2.below hb3
  replace hbx := cell_below hbx hb3
  replace hb := hb.trans (hb3.mono hb.size)
  have hww := RL.one hwb hv2
  refine go ?_
  refine s_call2 (wn rfl) rfl rfl rfl (l05Words_any _ _ _ [wd] _ hv hww hm (fun x hx => by simp at hx; subst hx; exact hw) (by simp)) ?_
  rintro y w4 ⟨hy, hb4⟩
  have sw4 := hb4.size
  replace hv := hv.below hb4
  replace hv2 := hv2.below hb4
  replace hbx := cell_below hbx hb4
  replace hww := hww.below hb4
  replace hb := hb.trans (hb4.mono hb.size)
  obtain ⟨u, hu, hcu⟩ := hy.rl.row (j := (0 : Int)) (by omega) (by simp [wds])
  have hge : gr (wds ms [wd]) 0 = does ms wd (nf ms) := by simp [wds, gr, List.getD]
  rw [hge] at hu
  have sy : SV y 1 := by simpa [wds] using hy.sv
  refine go ?_
  refine s_call1 (wn rfl) rfl rfl (l01Order_any _ _ (nf ms) _ hu hpm f4) ?_
  rintro _ w5 ⟨rfl, hb5⟩
  have sw5 := hb5.size
  replace hv := hv.below hb5
  replace hv2 := hv2.below hb5
  replace hbx := cell_below hbx hb5
  replace hww := hww.below hb5
  replace hy := hy.below hb5
  replace hu := hu.below hb5
  replace hcu := cell_below hcu hb5
  replace hb := hb.trans (hb5.mono hb.size)
  by_cases ho : ord (nf ms) (does ms wd (nf ms)) ≤ 1000000000000000
  rotate_left
  · have e := wp_2 hc ho
    rw [if_neg ho]
    have hov : (1000000000000000 : Int) < ((1000000000000001 : Nat) : Int) := by decide
    refine go ?_
    exact end_two Try.results55 rfl rfl ⟨by rw [e.1, e.2], hb⟩
  have e := wp_3 hc ho
  rw [if_pos ho]
  have hov : ¬ (1000000000000000 : Int) < (ord (nf ms) (does ms wd (nf ms)) : Int) := by omega
  refine go ?_
  exact end_two Try.results55 rfl rfl ⟨by rw [e.1, e.2], hb⟩

set_option maxHeartbeats 8000000 in
set_option maxRecDepth 100000 in
theorem implWordPeriod_any (v : Value) (v2 : Value) (ms : List (List Int)) (wd : List Int) (w : World) (hv : RL w v ms) (hv2 : IL w v2 wd) :
    Ret Try.prog 54 #[.agg #[v], v2] w fun r w' => r = .tuple #[.int .i64 (wpN ms wd), .int .i64 (wpC ms wd)] ∧ Below w.heap.size w w' := by
  have shv := hv.sv
  have shv2 := hv2.sv
  have hb := Below.refl w.heap.size w
  refine enter2 19 Try.func54 rfl Try.ntmps54 rfl (fun fr => ?_)
  refine go ?_
  refine s_box (wn rfl) rfl rfl (agg_cells shv) (fun w1 hbx _ hp hg => ?_)
  have hb1 := below_of_grownBy hg
  have sw1 := hb1.size
  replace hv := hv.below hb1
  replace hv2 := hv2.below hb1
  replace hb := hb.trans (hb1.mono hb.size)
  clear hg hp hb1
  generalize (⟨w.heap.size, 0, none⟩ : Addr) = p at *
  refine go ?_
  refine s_call1 (wn rfl) rfl rfl (isManiplex_any _ _ _ hv) ?_
  rintro _ w2 ⟨rfl, hb2⟩
  have sw2 := hb2.size
  replace hv := hv.below hb2
  replace hv2 := hv2.below hb2
  replace hbx := cell_below hbx hb2
  replace hb := hb.trans (hb2.mono hb.size)
  refine splitb (decide (IsMan ms)) (fun hm => ?_) (fun hm => ?_)
  rotate_left
  · have hm' := of_decide_eq_false hm
    have ec := (word_1 (wd := wd) hm').2
    have e := wp_1 (wd := wd) (by rw [ec]; decide)
    refine go ?_
    exact end_two Try.results54 rfl rfl ⟨by rw [e.1, e.2, ec], hb⟩
  have hm' := of_decide_eq_true hm
  have f4 := hm'.m0.f400
  refine go ?_
  refine s_call2 (wn rfl) rfl rfl rfl (isWord_any _ _ _ _ _ _ hv hbx hv2) ?_
  rintro _ w3 ⟨rfl, hb3⟩
  have sw3 := hb3.size
  replace hv := hv.below hb3
  replace hv2 := hv2.below hb3
  replace hbx := cell_below hbx hb3
  replace hb := hb.trans (hb3.mono hb.size)
  refine splitb (decide (IsWord ms wd)) (fun hw => ?_) (fun hw => ?_)
  rotate_left
  · have hw' := of_decide_eq_false hw
    have ec := (word_2 hm' hw').2
    have e := wp_1 (by rw [ec]; decide)
    refine go ?_
    exact end_two Try.results54 rfl rfl ⟨by rw [e.1, e.2, ec], hb⟩
  have hw' := of_decide_eq_true hw
  have hc := (word_3 hm' hw').2
  have hpm := does_pm hm' hw'
  refine go ?_
  refine s_call2 (wn rfl) rfl rfl rfl (does_any _ _ _ _ _ _ hv hbx hv2 hm' hw') ?_
  rintro y w4 ⟨hy, hb4⟩
  have sw4 := hb4.size
  replace hv := hv.below hb4
  replace hv2 := hv2.below hb4
  replace hbx := cell_below hbx hb4
  replace hb := hb.trans (hb4.mono hb.size)
  refine go ?_
  refine s_call1 (wn rfl) rfl rfl (PermutationOrder_any _ _ (nf ms) _ hy.il hpm f4) ?_
  rintro _ w5 ⟨rfl, hb5⟩
  have sw5 := hb5.size
  replace hv := hv.below hb5
  replace hv2 := hv2.below hb5
  replace hbx := cell_below hbx hb5
  replace hy := hy.below hb5
  replace hb := hb.trans (hb5.mono hb.size)
  by_cases ho : ord (nf ms) (does ms wd (nf ms)) ≤ 1000000000000000
  rotate_left
  · have e := wp_2 hc ho
    rw [if_neg ho, if_neg ho]
    refine go ?_
    exact end_two Try.results54 rfl rfl ⟨by rw [e.1, e.2]; rfl, hb⟩
  have e := wp_3 hc ho
  rw [if_pos ho, if_pos ho]
  refine go ?_
  exact end_two Try.results54 rfl rfl ⟨by rw [e.1, e.2], hb⟩

end Go.Proofs.Ytmdimdbfgibflaa
