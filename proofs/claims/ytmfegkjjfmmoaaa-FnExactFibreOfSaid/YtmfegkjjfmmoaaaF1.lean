/- Contracts: permutations and free involutions. -/
import Derived.Test.YtmfegkjjfmmoaaaTy
import Derived.Test.YtmfegkjjfmmoaaaP1
namespace Go.Proofs.Ytmfegkjjfmmoaaa
open Go.Mem Go.RowKit
theorem l01In_any (n lo hi : Int) (w : World) :
    Ret Try.prog 85 #[.int .i64 n, .int .i64 lo, .int .i64 hi] w fun r w' => r = .bool (inB n lo hi) ∧ w = w' := by
  refine enter3 15 Try.func85 rfl Try.ntmps85 rfl (fun fr => ?_)
  refine split (p := lo ≤ n) (fun h => ?_) (fun h => ?_)
  all_goals
    refine go ?_
    exact end_one Try.results85 rfl ⟨by simp [inB, h], rfl⟩

theorem within_any (n lo hi : Int) (w : World) :
    Ret Try.prog 87 #[.int .i64 n, .int .i64 lo, .int .i64 hi] w fun r w' => r = .bool (inB n lo hi) ∧ w = w' := by
  refine enter3 15 Try.func87 rfl Try.ntmps87 rfl (fun fr => ?_)
  refine split (p := lo ≤ n) (fun h => ?_) (fun h => ?_)
  all_goals
    refine go ?_
    exact end_one Try.results87 rfl ⟨by simp [inB, h], rfl⟩

theorem l01Perm_any (v : Value) (xs : List Int) (w : World) (hv : IL w v xs) :
    Ret Try.prog 103 #[v] w fun r w' => r = .bool (decide (IsPerm xs)) ∧ Below w.heap.size w w' := by
  have sv := hv.sv
  refine enter1 41 Try.func103 rfl Try.ntmps103 rfl (fun fr => ?_)
  refine go ?_
  refine cond_dec rfl (fun h => ?_) (fun h => ?_)
  · refine go ?_
    exact end_one Try.results103 rfl ⟨by rw [decide_eq_false (fun hp => by have := hp.1; omega)], Below.refl _ _⟩
  · refine go ?_
    refine s_makeB (B := w.heap.size) (wn rfl) rfl rfl rfl (by omega) (by omega) (Nat.le_refl _) (fun sb w1 hs ss hg hb => ?_)
    refine go ?_
    refine w_loop (fun k fr w' => ∃ (i : Nat) (bs : List Bool), k = xs.length - i ∧ i ≤ xs.length ∧ fr 0 = v ∧ fr 3 = sb ∧ fr 4 = .int .i64 i ∧ OB w' w.heap.size 4 sb bs ∧ Seen xs i bs ∧ Below w.heap.size w w') xs.length
      ⟨0, _, rfl, Nat.zero_le _, rfl, rfl, rfl, hs, Seen.start xs _ (by omega), below_of_grownBy hg⟩ ?_
    rintro k fr w2 ⟨i, bs, rfl, hi, f0, f3, f4, hs, hsn, hbel⟩
    have hv := hv.below hbel
    have ss := hs.sv
    have hlen := hsn.len
    refine know (t := 0) f0 ?_; refine know (t := 3) f3 ?_; refine know (t := 4) f4 ?_
    refine go ?_
    refine cond_dec rfl (fun hlt => ?_) (fun hge => ?_)
    · refine go ?_
      refine s_call3 (wn rfl) rfl rfl rfl rfl (l01In_any _ _ _ _) ?_
      rintro _ _ ⟨rfl, rfl⟩
      refine go ?_
      refine splitb (inB (gi xs i) 0 (xs.length - 1)) (fun hr => ?_) (fun hr => ?_)
      · have hr' := inB_true hr
        refine go ?_
        refine splitb (gb bs (gi xs i)) (fun hn => ?_) (fun hn => ?_)
        · refine go ?_
          exact end_one Try.results103 rfl ⟨by rw [hsn.bad_twice (by omega) hr hn], hbel⟩
        · refine go ?_
          refine s_storeB (wn rfl) rfl rfl hs (by omega) (by omega) (fun w3 hs3 hg3 => ?_)
          refine go ?_
          exact ⟨xs.length - (i + 1), by omega, i + 1, _, rfl, by omega, rfl, rfl, rfl, hs3, hsn.step (by omega) hr hn, hbel.trans (hs.below_of hg3 (by have := hbel.size; omega))⟩
      · refine go ?_
        exact end_one Try.results103 rfl ⟨by rw [Seen.bad_range (by omega) hr], hbel⟩
    · refine go ?_
      obtain rfl : i = xs.length := by omega
      exact end_one Try.results103 rfl ⟨by rw [hsn.done h], hbel⟩

theorem size_any (v : Value) (m : Nat) (w : World) (hv : SV v m) :
    Ret Try.prog 61 #[v] w fun r w' => r = .int .i64 m ∧ w = w' := by
  refine enter1 5 Try.func61 rfl Try.ntmps61 rfl (fun fr => ?_)
  refine go ?_
  exact end_one Try.results61 rfl ⟨rfl, rfl⟩
theorem sizeR_any (v : Value) (m : Nat) (w : World) (hv : SV v m) :
    Ret Try.prog 78 #[v] w fun r w' => r = .int .i64 m ∧ w = w' := by
  refine enter1 5 Try.func78 rfl Try.ntmps78 rfl (fun fr => ?_)
  refine go ?_
  exact end_one Try.results78 rfl ⟨rfl, rfl⟩

theorem isPermutation_any (v : Value) (xs : List Int) (w : World) (hv : IL w v xs) :
    Ret Try.prog 120 #[v] w fun r w' => r = .bool (decide (IsPerm xs)) ∧ Below w.heap.size w w' := by
  have sv := hv.sv
  refine enter1 34 Try.func120 rfl Try.ntmps120 rfl (fun fr => ?_)
  refine go ?_
  refine cond_dec rfl (fun h => ?_) (fun h => ?_)
  · refine go ?_
    exact end_one Try.results120 rfl ⟨by rw [decide_eq_false (fun hp => by have := hp.1; omega)], Below.refl _ _⟩
  · refine go ?_
    refine s_makeB (B := w.heap.size) (wn rfl) rfl rfl rfl (by omega) (by omega) (Nat.le_refl _) (fun sb w1 hs ss hg hb => ?_)
    refine go ?_
    refine w_loop (fun k fr w' => ∃ (i : Nat) (bs : List Bool), k = xs.length - i ∧ i ≤ xs.length ∧ fr 0 = v ∧ fr 3 = sb ∧ fr 12 = v ∧ fr 13 = .int .i64 xs.length ∧ fr 14 = .int .i64 i ∧ OB w' w.heap.size 4 sb bs ∧ Seen xs i bs ∧ Below w.heap.size w w') xs.length
      ⟨0, _, rfl, Nat.zero_le _, rfl, rfl, rfl, rfl, rfl, hs, Seen.start xs _ (by omega), below_of_grownBy hg⟩ ?_
    rintro k fr w2 ⟨i, bs, rfl, hi, f0, f3, f12, f13, f14, hs, hsn, hbel⟩
    have hv := hv.below hbel
    have ss := hs.sv
    have hlen := hsn.len
    refine know (t := 0) f0 ?_; refine know (t := 3) f3 ?_; refine know (t := 12) f12 ?_; refine know (t := 13) f13 ?_; refine know (t := 14) f14 ?_
    refine go ?_
    refine cond_dec rfl (fun hlt => ?_) (fun hge => ?_)
    · refine go ?_
      refine s_call1 (wn rfl) rfl rfl (size_any _ _ _ sv) ?_
      rintro _ _ ⟨rfl, rfl⟩
      refine go ?_
      refine s_call3 (wn rfl) rfl rfl rfl rfl (within_any _ _ _ _) ?_
      rintro _ _ ⟨rfl, rfl⟩
      refine go ?_
      refine splitb (inB (gi xs i) 0 (xs.length - 1)) (fun hr => ?_) (fun hr => ?_)
      · have hr' := inB_true hr
        refine go ?_
        refine splitb (gb bs (gi xs i)) (fun hn => ?_) (fun hn => ?_)
        · refine go ?_
          exact end_one Try.results120 rfl ⟨by rw [hsn.bad_twice (by omega) hr hn], hbel⟩
        · refine go ?_
          refine s_storeB (wn rfl) rfl rfl hs (by omega) (by omega) (fun w3 hs3 hg3 => ?_)
          refine go ?_
          exact ⟨xs.length - (i + 1), by omega, i + 1, _, rfl, by omega, rfl, rfl, rfl, rfl, rfl, hs3, hsn.step (by omega) hr hn, hbel.trans (hs.below_of hg3 (by have := hbel.size; omega))⟩
      · refine go ?_
        exact end_one Try.results120 rfl ⟨by rw [Seen.bad_range (by omega) hr], hbel⟩
    · refine go ?_
      obtain rfl : i = xs.length := by omega
      exact end_one Try.results120 rfl ⟨by rw [hsn.done h], hbel⟩

theorem l01Free_any (v : Value) (xs : List Int) (w : World) (hv : IL w v xs) (hp : IsPerm xs) :
    Ret Try.prog 104 #[v] w fun r w' => r = .bool (decide (IsFree xs)) ∧ w = w' := by
  have sv := hv.sv
  have h4 := hp.1
  refine enter1 27 Try.func104 rfl Try.ntmps104 rfl (fun fr => ?_)
  refine go ?_
  refine w_loop (fun k fr w' => ∃ (i : Nat), k = xs.length - i ∧ i ≤ xs.length ∧ fr 0 = v ∧ fr 3 = .int .i64 i ∧ w = w' ∧ ∀ j : Nat, j < i → gi xs j ≠ j ∧ gi xs (gi xs j) = j) xs.length
    ⟨0, rfl, Nat.zero_le _, rfl, rfl, rfl, by simp⟩ ?_
  rintro k fr _ ⟨i, rfl, hi, f0, f3, rfl, hall⟩
  refine know (t := 0) f0 ?_; refine know (t := 3) f3 ?_
  refine go ?_
  refine cond_dec rfl (fun hlt => ?_) (fun hge => ?_)
  · have hr := hp.gi (j := i) (by omega) hlt
    refine go ?_
    refine split (p := gi xs i = i) (fun he => ?_) (fun he => ?_)
    · refine go ?_
      exact end_one Try.results104 rfl ⟨by rw [decide_eq_false (fun hf => (hf i (by omega)).1 he)], rfl⟩
    · refine go ?_
      refine cond_dec rfl (fun he2 => ?_) (fun he2 => ?_)
      · refine go ?_
        exact end_one Try.results104 rfl ⟨by rw [decide_eq_false (fun hf => he2 (hf i (by omega)).2)], rfl⟩
      · refine go ?_
        refine ⟨xs.length - (i + 1), by omega, i + 1, rfl, by omega, rfl, rfl, rfl, fun j hj => ?_⟩
        by_cases hji : j = i
        · subst hji; exact ⟨he, Decidable.not_not.1 he2⟩
        · exact hall j (by omega)
  · refine go ?_
    obtain rfl : i = xs.length := by omega
    exact end_one Try.results104 rfl ⟨by rw [decide_eq_true (p := IsFree xs) hall], rfl⟩

theorem isFreeInvolution_any (v : Value) (xs : List Int) (w : World) (hv : IL w v xs) :
    Ret Try.prog 106 #[v] w fun r w' => r = .bool (decide (IsPerm xs ∧ IsFree xs)) ∧ Below w.heap.size w w' := by
  have sv := hv.sv
  refine enter1 27 Try.func106 rfl Try.ntmps106 rfl (fun fr => ?_)
  refine go ?_
  refine s_call1 (wn rfl) rfl rfl (isPermutation_any _ _ _ hv) ?_
  rintro _ w1 ⟨rfl, hb⟩
  refine go ?_
  refine cond_split rfl (fun hp => ?_) (fun hp => ?_)
  · refine go ?_
    exact end_one Try.results106 rfl ⟨by rw [decide_eq_false (fun h => by simp [h.1] at hp)], hb⟩
  · have hp : IsPerm xs := by simpa using hp
    have h4 := hp.1
    have hv := hv.below hb
    refine go ?_
    refine w_loop (fun k fr w' => ∃ (i : Nat), k = xs.length - i ∧ i ≤ xs.length ∧ fr 0 = v ∧ fr 8 = v ∧ fr 9 = .int .i64 xs.length ∧ fr 10 = .int .i64 i ∧ w1 = w' ∧ ∀ j : Nat, j < i → gi xs j ≠ j ∧ gi xs (gi xs j) = j) xs.length
      ⟨0, rfl, Nat.zero_le _, rfl, rfl, rfl, rfl, rfl, by simp⟩ ?_
    rintro k fr _ ⟨i, rfl, hi, f0, f8, f9, f10, rfl, hall⟩
    refine know (t := 0) f0 ?_; refine know (t := 8) f8 ?_; refine know (t := 9) f9 ?_; refine know (t := 10) f10 ?_
    refine go ?_
    refine cond_dec rfl (fun hlt => ?_) (fun hge => ?_)
    · have hr := hp.gi (j := i) (by omega) hlt
      refine go ?_
      refine split (p := gi xs i = i) (fun he => ?_) (fun he => ?_)
      · refine go ?_
        exact end_one Try.results106 rfl ⟨by rw [decide_eq_false (fun hf => (hf.2 i (by omega)).1 he)], hb⟩
      · refine go ?_
        refine cond_dec rfl (fun he2 => ?_) (fun he2 => ?_)
        · refine go ?_
          exact end_one Try.results106 rfl ⟨by rw [decide_eq_false (fun hf => he2 (hf.2 i (by omega)).2)], hb⟩
        · refine go ?_
          refine ⟨xs.length - (i + 1), by omega, i + 1, rfl, by omega, rfl, rfl, rfl, rfl, rfl, fun j hj => ?_⟩
          by_cases hji : j = i
          · subst hji; exact ⟨he, Decidable.not_not.1 he2⟩
          · exact hall j (by omega)
    · refine go ?_
      obtain rfl : i = xs.length := by omega
      exact end_one Try.results106 rfl ⟨by rw [decide_eq_true (p := IsPerm xs ∧ IsFree xs) ⟨hp, hall⟩], hb⟩

end Go.Proofs.Ytmfegkjjfmmoaaa
