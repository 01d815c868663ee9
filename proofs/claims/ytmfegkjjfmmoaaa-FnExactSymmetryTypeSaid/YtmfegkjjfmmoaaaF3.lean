/- Contracts: slices.Repeat of one number. -/
import Derived.Test.YtmfegkjjfmmoaaaF2
namespace Go.Proofs.Ytmfegkjjfmmoaaa
open Go.Mem Go.RowKit

theorem Mul64_small (a b : Int) (w : World) (ha : 0 ≤ a ∧ a ≤ 1) (hb : 0 ≤ b ∧ b ≤ 1000000) :
    Ret Try.prog 139 #[.int .u64 a, .int .u64 b] w fun r w' => r = .tuple #[.int .u64 0, .int .u64 (a * b)] ∧ w = w' := by
  have hab : 0 ≤ a * b ∧ a * b ≤ 1000000 := by
    rcases (show a = 0 ∨ a = 1 by omega) with rfl | rfl <;> simp <;> omega
  refine enter2 51 Try.func139 rfl Try.ntmps139 rfl (fun fr => ?_)
  refine go ?_
  refine s_p (wn rfl) rfl (y_and32 rfl (by omega)) ?_
  refine go ?_
  refine s_p (wn rfl) rfl (y_shr32 rfl (by omega)) ?_
  refine go ?_
  refine s_p (wn rfl) rfl (y_and32 rfl (by omega)) ?_
  refine go ?_
  refine s_p (wn rfl) rfl (y_shr32 rfl (by omega)) ?_
  refine go ?_
  refine s_p (wn rfl) rfl (y_mulU rfl rfl (by omega)) ?_
  refine go ?_
  refine s_p (wn rfl) rfl (y_mulU rfl rfl (by omega)) ?_
  refine go ?_
  refine s_p (wn rfl) rfl (y_shr32 rfl (by omega)) ?_
  refine s_p (wn rfl) rfl (y_addU rfl rfl (by omega)) ?_
  refine go ?_
  refine s_p (wn rfl) rfl (y_and32 rfl (by omega)) ?_
  refine go ?_
  refine s_p (wn rfl) rfl (y_shr32 rfl (by omega)) ?_
  refine go ?_
  refine s_p (wn rfl) rfl (y_mulU rfl rfl (by omega)) ?_
  refine s_p (wn rfl) rfl (y_addU rfl rfl (by omega)) ?_
  refine go ?_
  refine s_p (wn rfl) rfl (y_mulU rfl rfl (by omega)) ?_
  refine go ?_
  refine s_p (wn rfl) rfl (y_addU rfl rfl (by omega)) ?_
  refine go ?_
  refine s_p (wn rfl) rfl (y_shr32 rfl (by omega)) ?_
  refine s_p (wn rfl) rfl (y_addU rfl rfl (by omega)) ?_
  refine go ?_
  refine s_p (wn rfl) rfl (y_mulU rfl rfl (by omega)) ?_
  refine go ?_
  exact end_two Try.results139 rfl rfl ⟨by simp, rfl⟩

theorem Mul_small (a b : Int) (w : World) (ha : 0 ≤ a ∧ a ≤ 1) (hb : 0 ≤ b ∧ b ≤ 1000000) :
    Ret Try.prog 129 #[.int .u64 a, .int .u64 b] w fun r w' => r = .tuple #[.int .u64 0, .int .u64 (a * b)] ∧ w = w' := by
  refine enter2 30 Try.func129 rfl Try.ntmps129 rfl (fun fr => ?_)
  refine go ?_
  refine s_call2 (wn rfl) rfl rfl rfl (Mul64_small _ _ _ ha hb) ?_
  rintro _ _ ⟨rfl, rfl⟩
  refine go ?_
  exact end_two Try.results129 rfl rfl ⟨rfl, rfl⟩

theorem Repeat_one (v : Value) (a m : Int) (w : World) (hv : IL w v [a]) (hm : 0 ≤ m ∧ m ≤ 1000000) :
    Ret Try.prog 110 #[v, .int .i64 m] w fun r w' => OI w' w.heap.size 2 r (List.replicate m.toNat a) ∧ Below w.heap.size w w' := by
  have sv : SV v 1 := hv.sv
  have h0 : ¬ m < 0 := by omega
  have h1 : ¬ (9223372036854775807 < ((1 : Nat) : Int) * m) := by omega
  have h2 : ((1 : Nat) : Int) * m = m := by omega
  refine enter2 48 Try.func110 rfl Try.ntmps110 rfl (fun fr => ?_)
  refine go ?_
  refine s_call2 (wn rfl) rfl rfl rfl (Mul_small _ _ _ (by decide) hm) ?_
  rintro _ _ ⟨rfl, rfl⟩
  rw [h2] at h1 ⊢
  refine go ?_
  refine s_makeI (B := w.heap.size) (wn rfl) rfl rfl rfl hm.1 (by omega) (Nat.le_refl _) (fun nb w1 ho so hg hb => ?_)
  refine go ?_
  have hb1 := below_of_grownBy hg
  have hl : (List.replicate m.toNat (0 : Int)).length = m.toNat := by simp
  refine s_copyI (l := 0) (xs := List.replicate m.toNat 0) (wn rfl) rfl (by rw [hl, cut_all so]; rfl) rfl ho (Nat.zero_le _) (hv.below hb1) (fun w2 ho2 hg2 => ?_)
  have hb2 := hb1.trans (ho.below_of hg2 hb1.size)
  refine go ?_
  refine w_loop (fun k fr w' => ∃ (i : Nat) (ys : List Int), k = m.toNat - i ∧ i ≤ m.toNat ∧ (1 ≤ i ∨ m.toNat = 0) ∧ fr 7 = nb ∧ fr 8 = .int .i64 i ∧ ys.length = m.toNat ∧ (∀ j < i, ys[j]? = some a) ∧ OI w' w.heap.size 2 nb ys ∧ Below w.heap.size w w') (m.toNat - min 1 m.toNat)
    ⟨min 1 m.toNat, _, rfl, by omega, by omega, rfl, by simp; rfl, ?_, ?_, ho2, hb2⟩ ?_
  · simp; omega
  · intro j hj
    have : j = 0 := by omega
    subst this
    obtain ⟨q, hq⟩ : ∃ q, m.toNat = q + 1 := ⟨m.toNat - 1, by omega⟩
    simp [hq]
  rintro k fr w3 ⟨i, ys, rfl, hi, hi1, f7, f8, hyl, hya, ho, hb⟩
  have so : SV nb m.toNat := hyl ▸ ho.sv
  refine know (t := 7) f7 ?_; refine know (t := 8) f8 ?_
  refine go ?_
  refine cond_dec rfl (fun hlt => ?_) (fun hge => ?_)
  · refine go ?_
    have hcut : ∀ w', (∃ zs : List Int, zs.length = ys.length ∧ OI w' w.heap.size 2 nb zs) → ∃ zs : List Int, zs.length = ys.length ∧ IL w' nb zs := fun w' ⟨zs, h1, h2⟩ => ⟨zs, h1, h2.il⟩
    refine region_hS (fun w' => ∃ zs : List Int, zs.length = ys.length ∧ OI w' w.heap.size 2 nb zs) mixed (fun w4 hb4 => ?_)
    have hS : ∃ zs : List Int, zs.length = ys.length ∧ OI w4 w.heap.size 2 nb zs := ⟨ys, rfl, ho.below hb4⟩
    refine h_p 0 hS ?_ (hrun := fun w hw => yl)
    refine h_p 1 hS ?_ (hrun := fun w hw => yl)
    refine h_p 2 hS ?_ (hrun := fun w hw => yl)
    refine h_p 3 hS ?_ (v := cut nb i ys.length) (hrun := fun w hw => by obtain ⟨zs, h1, h2⟩ := hcut w hw; rw [← h1]; exact y_cutI (l := (i : Int)) rfl rfl h2 (by omega) (by omega))
    refine h_p 4 hS ?_ (hrun := fun w hw => yl)
    refine h_p 5 hS ?_ (hrun := fun w hw => yl)
    refine h_p 6 hS ?_ (v := cut nb 0 i) (hrun := fun w hw => by obtain ⟨zs, h1, h2⟩ := hcut w hw; exact y_cutI_hi (r := (i : Int)) rfl rfl h2 (by omega) (by omega))
    have ho4 := ho.below hb4
    have hb4' := hb.trans (hb4.mono hb.size)
    refine h_one 7 ?_
    refine s_copyI (l := i) (wn rfl) rfl rfl rfl ho4 (by omega) (ho4.il.cut (Nat.zero_le _) (by omega)) (fun w5 ho5 hg5 => ?_)
    have hb5 := hb4'.trans (ho4.below_of hg5 hb4'.size)
    refine w_nil ?_
    have hlen : (ys.take i ++ ((ys.take i).drop 0).take (ys.length - i) ++ ys.drop (i + ((ys.take i).drop 0).length)).length = ys.length := by simp; omega
    have hlt' : (i : Int) + (min ((ys.take i).drop 0).length (ys.length - i) : Nat) ≤ 9000000 := by omega
    have hS5 : ∃ zs : List Int, zs.length = ys.length ∧ OI w5 w.heap.size 2 nb zs := ⟨_, hlen, ho5⟩
    refine h_on ⟨hS5, ?_⟩
    refine h_p 8 hS5 ?_ (hrun := fun w hw => yl)
    refine h_p 9 hS5 ?_ (hrun := fun w hw => yl)
    refine h_nil ?_
    refine go ?_
    have hil : i < m.toNat := by omega
    refine ⟨m.toNat - (i + min ((ys.take i).drop 0).length (ys.length - i)), ?_, _, _, rfl, ?_, .inl (by omega), rfl, by simp; rfl, by rw [hlen]; exact hyl, ?_, ho5, hb5⟩
    · simp; omega
    · simp; omega
    · intro j hj
      simp only [List.drop_zero, List.length_take] at hj
      rw [List.append_assoc, List.getElem?_append]
      have hti : (ys.take i).length = i := by simp; omega
      rw [hti]
      by_cases hji : j < i
      · rw [if_pos hji, List.getElem?_take, if_pos hji]; exact hya j hji
      · rw [if_neg hji, List.getElem?_append]
        rw [if_pos (by simp; omega)]
        rw [List.drop_zero, List.getElem?_take, if_pos (by omega), List.getElem?_take, if_pos (by omega)]
        exact hya _ (by omega)
  · refine go ?_
    have : ys = List.replicate m.toNat a := by
      apply List.ext_getElem?
      intro j
      by_cases hj : j < m.toNat
      · rw [hya j (by omega)]; simp [hj]
      · rw [List.getElem?_eq_none (by omega), List.getElem?_eq_none (by simp; omega)]
    subst this
    exact end_one Try.results110 rfl ⟨ho, hb⟩
end Go.Proofs.Ytmfegkjjfmmoaaa
