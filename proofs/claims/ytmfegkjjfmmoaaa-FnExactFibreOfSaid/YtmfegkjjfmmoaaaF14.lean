/- Contracts: the laws' marks. -/
import Derived.Test.YtmfegkjjfmmoaaaF10
import Derived.Test.YtmfegkjjfmmoaaaP10
namespace Go.Proofs.Ytmfegkjjfmmoaaa
open Go.Mem Go.RowKit

theorem markInt64S_any (v : Value) (xs : List Int) (k : Int) (w : World) (B : Nat) (ho : OI w B 2 v xs) (hk : 0 ≤ k ∧ k ≤ 4000000000000000000) (hl : xs.length ≤ 4000000000000000000) :
    Ret Try.prog 22 #[v, .int .i64 k] w fun r w' => r = .int .i64 (k + xs.length) ∧ OI w' B 2 v (iota k xs.length) ∧ w.grownBy w' v.ownBlock := by
  refine enter2 19 Try.func22 rfl Try.ntmps22 rfl (fun fr => ?_)
  refine go ?_
  refine w_loop (fun q fr w' => ∃ (i : Nat) (ys : List Int), q = xs.length - i ∧ i ≤ xs.length ∧ fr 0 = v ∧ fr 1 = .int .i64 (k + i) ∧ fr 5 = .int .i64 i ∧ ys.length = xs.length ∧ (∀ j : Int, 0 ≤ j → j < i → gi ys j = k + j) ∧ OI w' B 2 v ys ∧ w.grownBy w' v.ownBlock) xs.length
    ⟨0, xs, rfl, Nat.zero_le _, rfl, by simp; rfl, rfl, rfl, fun j h0 h1 => by omega, ho, grownBy_of_below (Below.refl _ _) _⟩ ?_
  rintro q fr w2 ⟨i, ys, rfl, hi, f0, f1, f5, hyl, hys, ho, hg⟩
  have so := ho.sv
  refine know (t := 0) f0 ?_; refine know (t := 1) f1 ?_; refine know (t := 5) f5 ?_
  refine go ?_
  refine cond_dec rfl (fun hlt => ?_) (fun hge => ?_)
  · refine go ?_
    refine s_storeI (wn rfl) rfl rfl ho (by omega) (by omega) (fun w3 ho3 hg3 => ?_)
    refine go ?_
    refine ⟨xs.length - (i + 1), by omega, i + 1, _, rfl, by omega, rfl, by show Value.int _ _ = _; congr 1; omega, rfl, by simp [hyl], fun j h0 hj => ?_, ho3, grownBy_trans hg hg3⟩
    rw [gi_seti _ _ _ _ (by omega) (by omega) h0]
    split
    · rename_i e; rw [e]
    · exact hys j h0 (by omega)
  · obtain rfl : i = xs.length := by omega
    refine go ?_
    have : ys = iota k xs.length := list_ext_gi (by simp [hyl]) fun j h0 hj => by rw [hys j h0 (by omega), gi_iota h0 (by omega)]
    rw [this] at ho
    exact end_one Try.results22 rfl ⟨rfl, ho, hg⟩

theorem markInt64SS_any (v : Value) (xss : List (List Int)) (k : Int) (w : World) (B E : Nat) (ho : OM w B E 26 2 v xss) (hk : 0 ≤ k) (hl : k + tot xss ≤ 4000000000000000000) :
    Ret Try.prog 27 #[v, .int .i64 k] w fun r w' => r = .int .i64 (k + tot xss) ∧ OM w' B E 26 2 v (mkRows xss k) ∧ Btw B E w w' := by
  refine enter2 19 Try.func27 rfl Try.ntmps27 rfl (fun fr => ?_)
  refine go ?_
  refine w_loop (fun q fr w' => ∃ (i : Nat) (yss : List (List Int)), q = xss.length - i ∧ i ≤ xss.length ∧ fr 0 = v ∧ fr 1 = .int .i64 (k + tot (xss.take i)) ∧ fr 5 = .int .i64 i ∧ yss.length = xss.length ∧
      (∀ j : Nat, j < i → gr yss j = gr (mkRows xss k) j) ∧ (∀ j : Nat, i ≤ j → gr yss j = gr xss j) ∧ OM w' B E 26 2 v yss ∧ Btw B E w w') xss.length
    ⟨0, xss, rfl, Nat.zero_le _, rfl, by simp [tot]; rfl, rfl, rfl, fun j h1 => by omega, fun j _ => rfl, ho, Btw.refl _ _ _⟩ ?_
  rintro q fr w2 ⟨i, yss, rfl, hi, f0, f1, f5, hyl, hys, hyr, ho, hb⟩
  have so := ho.sv
  have hcap := so.le
  refine know (t := 0) f0 ?_; refine know (t := 1) f1 ?_; refine know (t := 5) f5 ?_
  refine go ?_
  refine cond_dec rfl (fun hlt => ?_) (fun hge => ?_)
  · obtain ⟨u, hu, hc, hE, hup⟩ := ho.rowW (by decide) (j := i) (by omega) (by omega)
    have h1 := tot_take_succ xss i (by omega)
    have h2 := tot_take_le xss (i + 1)
    have h3 := tot_nonneg (xss.take i)
    have e1 : gr yss i = gr xss i := hyr i (Nat.le_refl _)
    rw [e1] at hu
    refine go ?_
    refine s_call2 (wn rfl) rfl rfl rfl (markInt64S_any _ _ _ _ _ hu (by omega) (by omega)) ?_
    rintro _ w3 ⟨rfl, hu3, hg3⟩
    have ho3 := hup w3 _ hu3 hg3
    have hb3 := hb.trans (Btw.of_grown hg3 (fun g hg => ⟨(hu.lt g hg).1, hE g hg⟩))
    refine go ?_
    refine ⟨xss.length - (i + 1), by omega, i + 1, _, rfl, by omega, rfl, by show Value.int _ _ = _; congr 1; omega, rfl, by simp [hyl], fun j hj => ?_, fun j hj => ?_, ho3, hb3⟩
    · have hin : ((i : Int)).toNat = i := by omega
      rw [hin]
      by_cases hji : j = i
      · subst hji
        rw [gr_mkRows _ _ _ (by omega)]
        have : j < yss.length := by omega
        simp [gr, List.getD, this]
      · have := hys j (by omega)
        rw [← this]
        have hne : ¬ i = j := by omega
        simp [gr, List.getD, hne]
    · have hin : ((i : Int)).toNat = i := by omega
      rw [hin, ← hyr j (by omega)]
      have hne : ¬ i = j := by omega
      simp [gr, List.getD, hne]
  · obtain rfl : i = xss.length := by omega
    refine go ?_
    have : yss = mkRows xss k := rows_ext (by rw [hyl, length_mkRows]) fun j hj => hys j (by omega)
    rw [this] at ho
    exact end_one Try.results27 rfl ⟨by rw [List.take_length], ho, hb⟩

theorem markManiplex_any (v : Value) (xss : List (List Int)) (k : Int) (w : World) (B E : Nat) (ho : OM w B E 26 2 v xss) (hk : 0 ≤ k) (hl : k + tot xss ≤ 4000000000000000000) :
    Ret Try.prog 21 #[.agg #[v], .int .i64 k] w fun r w' => r = .int .i64 (k + tot xss) ∧ OM w' B E 26 2 v (mkRows xss k) ∧ Btw B E w w' := by
  have sv := ho.sv
  refine enter2 10 Try.func21 rfl Try.ntmps21 rfl (fun fr => ?_)
  refine go ?_
  refine s_box (wn rfl) rfl rfl (agg_cells sv) (fun w1 hbx _ _ hg => ?_)
  have hb := below_of_grownBy hg
  have ho := ho.below hb
  generalize (⟨w.heap.size, 0, none⟩ : Addr) = p at *
  refine go ?_
  refine s_call2 (wn rfl) rfl rfl rfl (markInt64SS_any _ _ _ _ _ _ ho hk hl) ?_
  rintro _ w2 ⟨rfl, ho2, hb2⟩
  refine go ?_
  exact end_one Try.results21 rfl ⟨rfl, ho2, (Btw.of_below hb).trans hb2⟩

theorem heldInt64S_any (v : Value) (k : Int) (m : Nat) (w : World) (hv : IL w v (iota k m)) (hk : 0 ≤ k ∧ k ≤ 4000000000000000000) (hl : m ≤ 4000000000000000000) :
    Ret Try.prog 23 #[v, .int .i64 k] w fun r w' => r = .int .i64 (k + m) ∧ w = w' := by
  have sv : SV v m := by have := hv.sv; rwa [length_iota] at this
  have hlen := length_iota k m
  refine enter2 21 Try.func23 rfl Try.ntmps23 rfl (fun fr => ?_)
  refine go ?_
  refine w_loop (fun q fr w' => ∃ (i : Nat), q = m - i ∧ i ≤ m ∧ fr 0 = v ∧ fr 1 = .int .i64 (k + i) ∧ fr 5 = .int .i64 i ∧ w = w') m
    ⟨0, rfl, Nat.zero_le _, rfl, by simp; rfl, rfl, rfl⟩ ?_
  rintro q fr _ ⟨i, rfl, hi, f0, f1, f5, rfl⟩
  refine know (t := 0) f0 ?_; refine know (t := 1) f1 ?_; refine know (t := 5) f5 ?_
  refine go ?_
  refine cond_dec rfl (fun hlt => ?_) (fun hge => ?_)
  · have hne : ¬ (gi (iota k m) i ≠ k + i) := by rw [gi_iota (by omega) hlt]; simp
    refine go ?_
    exact ⟨m - (i + 1), by omega, i + 1, rfl, by omega, rfl, by show Value.int _ _ = _; congr 1; omega, rfl, rfl⟩
  · obtain rfl : i = m := by omega
    refine go ?_
    exact end_one Try.results23 rfl ⟨rfl, rfl⟩
end Go.Proofs.Ytmfegkjjfmmoaaa
