/- Texts laid together: F1 F2 F3 F4 F5 F6 F7 F8 F9. -/
import Derived.Test.YtkknhcpjiehgiaaDoorTy
import Derived.Test.YtkknhcpjiehgiaaDoorPA
/- Contracts: permutations and free involutions. -/
namespace Go.Proofs.YtkknhcpjiehgiaaDoor
open Go.Mem Go.RowKit
theorem l01In_any (n lo hi : Int) (w : World) :
    Ret Tryd.prog 39 #[.int .i64 n, .int .i64 lo, .int .i64 hi] w fun r w' => r = .bool (inB n lo hi) ∧ w = w' := by
  refine enter3 15 Tryd.func39 rfl Tryd.ntmps39 rfl (fun fr => ?_)
  refine split (p := lo ≤ n) (fun h => ?_) (fun h => ?_)
  all_goals
    refine go ?_
    exact end_one Tryd.results39 rfl ⟨by simp [inB, h], rfl⟩

theorem within_any (n lo hi : Int) (w : World) :
    Ret Tryd.prog 28 #[.int .i64 n, .int .i64 lo, .int .i64 hi] w fun r w' => r = .bool (inB n lo hi) ∧ w = w' := by
  refine enter3 15 Tryd.func28 rfl Tryd.ntmps28 rfl (fun fr => ?_)
  refine split (p := lo ≤ n) (fun h => ?_) (fun h => ?_)
  all_goals
    refine go ?_
    exact end_one Tryd.results28 rfl ⟨by simp [inB, h], rfl⟩

theorem l01Perm_any (v : Value) (xs : List Int) (w : World) (hv : IL w v xs) :
    Ret Tryd.prog 20 #[v] w fun r w' => r = .bool (decide (IsPerm xs)) ∧ Below w.heap.size w w' := by
  have sv := hv.sv
  refine enter1 41 Tryd.func20 rfl Tryd.ntmps20 rfl (fun fr => ?_)
  refine go ?_
  refine cond_dec rfl (fun h => ?_) (fun h => ?_)
  · refine go ?_
    exact end_one Tryd.results20 rfl ⟨by rw [decide_eq_false (fun hp => by have := hp.1; omega)], Below.refl _ _⟩
  · refine go ?_
    refine s_makeB (B := w.heap.size) (wn rfl) rfl rfl rfl (by omega) (by omega) (Nat.le_refl _) (fun sb w1 hs ss hg hb => ?_)
    refine go ?_
    refine w_loop (fun k fr w' => ∃ (i : Nat) (bs : List Bool), k = xs.length - i ∧ i ≤ xs.length ∧ fr 0 = v ∧ fr 3 = sb ∧ fr 4 = .int .i64 i ∧ OB w' w.heap.size 4 sb bs ∧ Seen xs i bs ∧ Below w.heap.size w w') xs.length
      ⟨0, _, rfl, Nat.zero_le _, rfl, rfl, rfl, hs, Seen.start xs _ (by omega), below_of_grownBy hg⟩ ?_
    rintro k fr w2 ⟨i, bs, rfl, hi, f0, f3, f4, hs, hsn, hbel⟩
    have hv := hv.below hbel
    have ss := hs.sv
    have hlen := hsn.len
    refine know (t := 0) f0 ?_; refine know (t := 3) f3 ?_; refine know (t := 4) f4 ?_
    refine go ?_
    refine cond_dec rfl (fun hlt => ?_) (fun hge => ?_)
    · refine go ?_
      refine s_call3 (wn rfl) rfl rfl rfl rfl (l01In_any _ _ _ _) ?_
      rintro _ _ ⟨rfl, rfl⟩
      refine go ?_
      refine splitb (inB (gi xs i) 0 (xs.length - 1)) (fun hr => ?_) (fun hr => ?_)
      · have hr' := inB_true hr
        refine go ?_
        refine splitb (gb bs (gi xs i)) (fun hn => ?_) (fun hn => ?_)
        · refine go ?_
          exact end_one Tryd.results20 rfl ⟨by rw [hsn.bad_twice (by omega) hr hn], hbel⟩
        · refine go ?_
          refine s_storeB (wn rfl) rfl rfl hs (by omega) (by omega) (fun w3 hs3 hg3 => ?_)
          refine go ?_
          exact ⟨xs.length - (i + 1), by omega, i + 1, _, rfl, by omega, rfl, rfl, rfl, hs3, hsn.step (by omega) hr hn, hbel.trans (hs.below_of hg3 (by have := hbel.size; omega))⟩
      · refine go ?_
        exact end_one Tryd.results20 rfl ⟨by rw [Seen.bad_range (by omega) hr], hbel⟩
    · refine go ?_
      obtain rfl : i = xs.length := by omega
      exact end_one Tryd.results20 rfl ⟨by rw [hsn.done h], hbel⟩

theorem size_any (v : Value) (m : Nat) (w : World) (hv : SV v m) :
    Ret Tryd.prog 31 #[v] w fun r w' => r = .int .i64 m ∧ w = w' := by
  refine enter1 5 Tryd.func31 rfl Tryd.ntmps31 rfl (fun fr => ?_)
  refine go ?_
  exact end_one Tryd.results31 rfl ⟨rfl, rfl⟩
theorem sizeR_any (v : Value) (m : Nat) (w : World) (hv : SV v m) :
    Ret Tryd.prog 17 #[v] w fun r w' => r = .int .i64 m ∧ w = w' := by
  refine enter1 5 Tryd.func17 rfl Tryd.ntmps17 rfl (fun fr => ?_)
  refine go ?_
  exact end_one Tryd.results17 rfl ⟨rfl, rfl⟩

theorem isPermutation_any (v : Value) (xs : List Int) (w : World) (hv : IL w v xs) :
    Ret Tryd.prog 43 #[v] w fun r w' => r = .bool (decide (IsPerm xs)) ∧ Below w.heap.size w w' := by
  have sv := hv.sv
  refine enter1 34 Tryd.func43 rfl Tryd.ntmps43 rfl (fun fr => ?_)
  refine go ?_
  refine cond_dec rfl (fun h => ?_) (fun h => ?_)
  · refine go ?_
    exact end_one Tryd.results43 rfl ⟨by rw [decide_eq_false (fun hp => by have := hp.1; omega)], Below.refl _ _⟩
  · refine go ?_
    refine s_makeB (B := w.heap.size) (wn rfl) rfl rfl rfl (by omega) (by omega) (Nat.le_refl _) (fun sb w1 hs ss hg hb => ?_)
    refine go ?_
    refine w_loop (fun k fr w' => ∃ (i : Nat) (bs : List Bool), k = xs.length - i ∧ i ≤ xs.length ∧ fr 0 = v ∧ fr 3 = sb ∧ fr 12 = v ∧ fr 13 = .int .i64 xs.length ∧ fr 14 = .int .i64 i ∧ OB w' w.heap.size 4 sb bs ∧ Seen xs i bs ∧ Below w.heap.size w w') xs.length
      ⟨0, _, rfl, Nat.zero_le _, rfl, rfl, rfl, rfl, rfl, hs, Seen.start xs _ (by omega), below_of_grownBy hg⟩ ?_
    rintro k fr w2 ⟨i, bs, rfl, hi, f0, f3, f12, f13, f14, hs, hsn, hbel⟩
    have hv := hv.below hbel
    have ss := hs.sv
    have hlen := hsn.len
    refine know (t := 0) f0 ?_; refine know (t := 3) f3 ?_; refine know (t := 12) f12 ?_; refine know (t := 13) f13 ?_; refine know (t := 14) f14 ?_
    refine go ?_
    refine cond_dec rfl (fun hlt => ?_) (fun hge => ?_)
    · refine go ?_
      refine s_call1 (wn rfl) rfl rfl (size_any _ _ _ sv) ?_
      rintro _ _ ⟨rfl, rfl⟩
      refine go ?_
      refine s_call3 (wn rfl) rfl rfl rfl rfl (within_any _ _ _ _) ?_
      rintro _ _ ⟨rfl, rfl⟩
      refine go ?_
      refine splitb (inB (gi xs i) 0 (xs.length - 1)) (fun hr => ?_) (fun hr => ?_)
      · have hr' := inB_true hr
        refine go ?_
        refine splitb (gb bs (gi xs i)) (fun hn => ?_) (fun hn => ?_)
        · refine go ?_
          exact end_one Tryd.results43 rfl ⟨by rw [hsn.bad_twice (by omega) hr hn], hbel⟩
        · refine go ?_
          refine s_storeB (wn rfl) rfl rfl hs (by omega) (by omega) (fun w3 hs3 hg3 => ?_)
          refine go ?_
          exact ⟨xs.length - (i + 1), by omega, i + 1, _, rfl, by omega, rfl, rfl, rfl, rfl, rfl, hs3, hsn.step (by omega) hr hn, hbel.trans (hs.below_of hg3 (by have := hbel.size; omega))⟩
      · refine go ?_
        exact end_one Tryd.results43 rfl ⟨by rw [Seen.bad_range (by omega) hr], hbel⟩
    · refine go ?_
      obtain rfl : i = xs.length := by omega
      exact end_one Tryd.results43 rfl ⟨by rw [hsn.done h], hbel⟩

theorem l01Free_any (v : Value) (xs : List Int) (w : World) (hv : IL w v xs) (hp : IsPerm xs) :
    Ret Tryd.prog 21 #[v] w fun r w' => r = .bool (decide (IsFree xs)) ∧ w = w' := by
  have sv := hv.sv
  have h4 := hp.1
  refine enter1 27 Tryd.func21 rfl Tryd.ntmps21 rfl (fun fr => ?_)
  refine go ?_
  refine w_loop (fun k fr w' => ∃ (i : Nat), k = xs.length - i ∧ i ≤ xs.length ∧ fr 0 = v ∧ fr 3 = .int .i64 i ∧ w = w' ∧ ∀ j : Nat, j < i → gi xs j ≠ j ∧ gi xs (gi xs j) = j) xs.length
    ⟨0, rfl, Nat.zero_le _, rfl, rfl, rfl, by simp⟩ ?_
  rintro k fr _ ⟨i, rfl, hi, f0, f3, rfl, hall⟩
  refine know (t := 0) f0 ?_; refine know (t := 3) f3 ?_
  refine go ?_
  refine cond_dec rfl (fun hlt => ?_) (fun hge => ?_)
  · have hr := hp.gi (j := i) (by omega) hlt
    refine go ?_
    refine split (p := gi xs i = i) (fun he => ?_) (fun he => ?_)
    · refine go ?_
      exact end_one Tryd.results21 rfl ⟨by rw [decide_eq_false (fun hf => (hf i (by omega)).1 he)], rfl⟩
    · refine go ?_
      refine cond_dec rfl (fun he2 => ?_) (fun he2 => ?_)
      · refine go ?_
        exact end_one Tryd.results21 rfl ⟨by rw [decide_eq_false (fun hf => he2 (hf i (by omega)).2)], rfl⟩
      · refine go ?_
        refine ⟨xs.length - (i + 1), by omega, i + 1, rfl, by omega, rfl, rfl, rfl, fun j hj => ?_⟩
        by_cases hji : j = i
        · subst hji; exact ⟨he, Decidable.not_not.1 he2⟩
        · exact hall j (by omega)
  · refine go ?_
    obtain rfl : i = xs.length := by omega
    exact end_one Tryd.results21 rfl ⟨by rw [decide_eq_true (p := IsFree xs) hall], rfl⟩

theorem isFreeInvolution_any (v : Value) (xs : List Int) (w : World) (hv : IL w v xs) :
    Ret Tryd.prog 30 #[v] w fun r w' => r = .bool (decide (IsPerm xs ∧ IsFree xs)) ∧ Below w.heap.size w w' := by
  have sv := hv.sv
  refine enter1 27 Tryd.func30 rfl Tryd.ntmps30 rfl (fun fr => ?_)
  refine go ?_
  refine s_call1 (wn rfl) rfl rfl (isPermutation_any _ _ _ hv) ?_
  rintro _ w1 ⟨rfl, hb⟩
  refine go ?_
  refine cond_split rfl (fun hp => ?_) (fun hp => ?_)
  · refine go ?_
    exact end_one Tryd.results30 rfl ⟨by rw [decide_eq_false (fun h => by simp [h.1] at hp)], hb⟩
  · have hp : IsPerm xs := by simpa using hp
    have h4 := hp.1
    have hv := hv.below hb
    refine go ?_
    refine w_loop (fun k fr w' => ∃ (i : Nat), k = xs.length - i ∧ i ≤ xs.length ∧ fr 0 = v ∧ fr 8 = v ∧ fr 9 = .int .i64 xs.length ∧ fr 10 = .int .i64 i ∧ w1 = w' ∧ ∀ j : Nat, j < i → gi xs j ≠ j ∧ gi xs (gi xs j) = j) xs.length
      ⟨0, rfl, Nat.zero_le _, rfl, rfl, rfl, rfl, rfl, by simp⟩ ?_
    rintro k fr _ ⟨i, rfl, hi, f0, f8, f9, f10, rfl, hall⟩
    refine know (t := 0) f0 ?_; refine know (t := 8) f8 ?_; refine know (t := 9) f9 ?_; refine know (t := 10) f10 ?_
    refine go ?_
    refine cond_dec rfl (fun hlt => ?_) (fun hge => ?_)
    · have hr := hp.gi (j := i) (by omega) hlt
      refine go ?_
      refine split (p := gi xs i = i) (fun he => ?_) (fun he => ?_)
      · refine go ?_
        exact end_one Tryd.results30 rfl ⟨by rw [decide_eq_false (fun hf => (hf.2 i (by omega)).1 he)], hb⟩
      · refine go ?_
        refine cond_dec rfl (fun he2 => ?_) (fun he2 => ?_)
        · refine go ?_
          exact end_one Tryd.results30 rfl ⟨by rw [decide_eq_false (fun hf => he2 (hf.2 i (by omega)).2)], hb⟩
        · refine go ?_
          refine ⟨xs.length - (i + 1), by omega, i + 1, rfl, by omega, rfl, rfl, rfl, rfl, rfl, fun j hj => ?_⟩
          by_cases hji : j = i
          · subst hji; exact ⟨he, Decidable.not_not.1 he2⟩
          · exact hall j (by omega)
    · refine go ?_
      obtain rfl : i = xs.length := by omega
      exact end_one Tryd.results30 rfl ⟨by rw [decide_eq_true (p := IsPerm xs ∧ IsFree xs) ⟨hp, hall⟩], hb⟩

end Go.Proofs.YtkknhcpjiehgiaaDoor

/- Contracts: orbits. -/
namespace Go.Proofs.YtkknhcpjiehgiaaDoor
open Go.Mem Go.RowKit

theorem l01Orbit_ne (v : Value) (xss : List (List Int)) (n : Nat) (p : Int) (w : World) (hv : RL w v xss) (hsys : Syst n xss) (hp : 0 ≤ p ∧ p < n) (hne : xss ≠ [] ∨ n = p + 1) (hN : n ≤ 1000) (hM : xss.length ≤ 1000) :
    Ret Tryd.prog 22 #[v, .int .i64 p] w fun r w' => OI w' w.heap.size 2 r (orbit xss p) ∧ Below w.heap.size w w' := by
  have sv := hv.sv
  refine enter2 63 Tryd.func22 rfl Tryd.ntmps22 rfl (fun fr => ?_)
  refine go ?_
  refine s_build1 (B := w.heap.size) (wn rfl) rfl rfl (Nat.le_refl _) (fun ob w1 ho so hg hb => ?_)
  have hbel := below_of_grownBy hg
  have hv1 := hv.below hbel
  refine go ?_
  refine meet (fun r w' => ∃ s : Int, r 0 = v ∧ r 1 = .int .i64 p ∧ r 5 = ob ∧ r 6 = .int .i64 s ∧ 0 ≤ s ∧ s ≤ n ∧ n ≤ s + p + 1 ∧ w1 = w') ?_ ?_
  · refine cond_dec rfl (fun h => ?_) (fun h => ?_)
    · have hrow := hsys.row (j := 0) (by omega) h
      have hl := hrow.1
      refine go ?_
      refine s_ldR (wn rfl) rfl rfl hv1 (by omega) (by omega) (fun u hu su => ?_)
      refine go ?_
      exact ⟨(gr xss 0).length, rfl, rfl, rfl, rfl, by omega, by omega, by omega, rfl⟩
    · have : xss = [] := by cases xss with | nil => rfl | cons _ _ => simp at h
      refine go ?_
      exact ⟨0, rfl, rfl, rfl, rfl, by omega, by omega, by rcases hne with h | h; exact absurd this h; omega, rfl⟩
  · rintro r _ ⟨s, f0, f1, f5, f6, hs0, hsn, hsp, rfl⟩
    have h1 := hbel.size
    refine know (t := 0) f0 ?_; refine know (t := 1) f1 ?_; refine know (t := 5) f5 ?_; refine know (t := 6) f6 ?_
    refine go ?_
    refine s_makeB (B := w.heap.size) (wn rfl) rfl rfl rfl (by omega) (by omega) (by omega) (fun sb w2 hsb ssb hg2 hb2 => ?_)
    refine go ?_
    refine s_storeB (wn rfl) rfl rfl hsb (by omega) (by simp; omega) (fun w3 hsb3 hg3 => ?_)
    have ho2 := ho.below (below_of_grownBy hg2)
    have ho3 := ho2.kept hg3 (ho2.apart_OB hsb (by decide))
    have h2 := hg2.size
    have hbel3 := (hbel.trans ((below_of_grownBy hg2).mono h1)).trans (hsb.below_of hg3 (by omega))
    refine go ?_
    refine w_loop (fun k fr w' => ∃ (i : Nat) (ob : Value) (seen : List Bool), k = n - i ∧ i ≤ (bfs xss p i).length ∧ fr 0 = v ∧ fr 5 = ob ∧ fr 7 = sb ∧ fr 8 = .int .i64 i ∧
        OI w' w.heap.size 2 ob (bfs xss p i) ∧ OB w' w.heap.size 4 sb seen ∧ Orb n seen (bfs xss p i) ∧ Below w.heap.size w w') n
      ⟨0, ob, _, rfl, Nat.zero_le _, rfl, rfl, rfl, rfl, ho3, hsb3, Orb.start hp (by omega), hbel3⟩ ?_
    rintro k fr w4 ⟨i, ob, seen, rfl, hi, f0, f5, f7, f8, ho, hs, horb, hbel⟩
    have so := ho.sv
    have hle := horb.le
    refine know (t := 0) f0 ?_; refine know (t := 5) f5 ?_; refine know (t := 7) f7 ?_; refine know (t := 8) f8 ?_
    refine go ?_
    refine cond_dec rfl (fun hlt => ?_) (fun hge => ?_)
    · refine go ?_
      have hx : 0 ≤ gi (bfs xss p i) i ∧ gi (bfs xss p i) i < n := horb.rng _ (gi_mem (by omega) hlt)
      refine w_loop (fun k fr w' => ∃ (j : Nat) (ob : Value) (seen : List Bool) (o : List Int), k = xss.length - j ∧ j ≤ xss.length ∧ fr 0 = v ∧ fr 5 = ob ∧ fr 7 = sb ∧ fr 8 = .int .i64 i ∧ fr 9 = .int .i64 j ∧
          o = visits (bfs xss p i) ((images xss (gi (bfs xss p i) i)).take j) ∧ OI w' w.heap.size 2 ob o ∧ OB w' w.heap.size 4 sb seen ∧ Orb n seen o ∧ Below w.heap.size w w') xss.length
        ⟨0, ob, seen, _, rfl, Nat.zero_le _, rfl, rfl, rfl, rfl, rfl, by simp [visits], ho, hs, horb, hbel⟩ ?_
      rintro k fr w5 ⟨j, ob, seen, o, rfl, hj, f0, f5, f7, f8, f9, hoe, ho, hs, horb, hbel⟩
      have so := ho.sv
      have ss := hs.sv
      have hle := horb.le
      have hv5 := hv.below hbel
      have hol : (bfs xss p i).length ≤ o.length := by rw [hoe]; exact length_visits _ _
      have hgo : gi o i = gi (bfs xss p i) i := by rw [hoe]; exact gi_visits (by omega) hlt
      refine know (t := 0) f0 ?_; refine know (t := 5) f5 ?_; refine know (t := 7) f7 ?_; refine know (t := 8) f8 ?_; refine know (t := 9) f9 ?_
      refine go ?_
      refine cond_dec rfl (fun hlt2 => ?_) (fun hge2 => ?_)
      · refine go ?_
        obtain ⟨u, hu, hcell⟩ := hv5.row (j := j) (by omega) hlt2
        have su := hu.sv
        have hrow := hsys.row (j := j) (by omega) hlt2
        have hrl := hrow.1
        have hx' : 0 ≤ gi o i ∧ gi o i < n := by rw [hgo]; exact hx
        refine region_q mixed (by kernel_rfl) ?_; refine qo ?_; refine q_nil ?_
        intro w6 hb6
        have ho := ho.below hb6
        have hs := hs.below hb6
        have hbel := hbel.trans (hb6.mono hbel.size)
        have hy := hsys.at (j := j) (x := gi o i) (by omega) hlt2 hx'
        have hsl := horb.len
        refine go ?_
        have hstep : visits (bfs xss p i) ((images xss (gi (bfs xss p i) i)).take (j + 1)) = visit o (gi (gr xss j) (gi o i)) := by
          rw [visits_take_succ (by rw [length_images]; omega), gi_images (by omega), ← hoe, hgo]
        refine cond_split rfl (fun hn => ?_) (fun hn => ?_)
        · have hn : gb seen (gi (gr xss j) (gi o i)) = false := by simpa using hn
          obtain ⟨hv1, horb'⟩ := horb.miss hy hn
          refine go ?_
          refine s_storeB (wn rfl) rfl rfl hs (by omega) (by omega) (fun w7 hs7 hg7 => ?_)
          have ho7 := ho.kept hg7 (ho.apart_OB hs (by decide))
          have hb7 := hbel.trans (hs.below_of hg7 hbel.size)
          refine go ?_
          refine s_build1 (B := w.heap.size) (wn rfl) rfl rfl hb7.size (fun tb w8 ht st hg8 _ => ?_)
          have hb8 := below_of_grownBy hg8
          have ho8 := ho7.below hb8
          have hs8 := hs7.below hb8
          have hbel8 := hb7.trans (hb8.mono hb7.size)
          refine s_appendI (wn rfl) rfl rfl rfl ho8 ht.il (by simp; omega) hbel8.size (fun ob' w9 ho9 so9 hg9 _ => ?_)
          have hs9 := hs8.kept hg9 (hs8.apart_OI ho8 (by decide))
          have hbel9 := hbel8.trans (ho8.below_of hg9 hbel8.size)
          refine go ?_
          exact ⟨xss.length - (j + 1), by omega, j + 1, ob', _, _, rfl, by omega, rfl, rfl, rfl, rfl, rfl, by rw [hstep, hv1], ho9, hs9, horb', hbel9⟩
        · have hn : gb seen (gi (gr xss j) (gi o i)) = true := by simpa using hn
          refine go ?_
          exact ⟨xss.length - (j + 1), by omega, j + 1, ob, _, o, rfl, by omega, rfl, rfl, rfl, rfl, rfl, by rw [hstep, horb.hit hy hn], ho, hs, horb, hbel⟩
      · refine go ?_
        have hbs : o = bfs xss p (i + 1) := by
          rw [hoe, visits_take_all (by rw [length_images]; omega), bfs_succ (by omega)]
        subst hbs
        exact ⟨n - (i + 1), by omega, i + 1, ob, seen, rfl, by omega, rfl, rfl, rfl, rfl, ho, hs, horb, hbel⟩
    · refine go ?_
      exact end_one Tryd.results22 rfl ⟨by rw [orbit_eq (i := i) (by omega) (by omega)]; exact ho, hbel⟩
end Go.Proofs.YtkknhcpjiehgiaaDoor

/- Contracts: slices.Repeat of one number. -/
namespace Go.Proofs.YtkknhcpjiehgiaaDoor
open Go.Mem Go.RowKit

theorem Mul64_small (a b : Int) (w : World) (ha : 0 ≤ a ∧ a ≤ 1) (hb : 0 ≤ b ∧ b ≤ 1000000) :
    Ret Tryd.prog 63 #[.int .u64 a, .int .u64 b] w fun r w' => r = .tuple #[.int .u64 0, .int .u64 (a * b)] ∧ w = w' := by
  have hab : 0 ≤ a * b ∧ a * b ≤ 1000000 := by
    rcases (show a = 0 ∨ a = 1 by omega) with rfl | rfl <;> simp <;> omega
  refine enter2 51 Tryd.func63 rfl Tryd.ntmps63 rfl (fun fr => ?_)
  refine go ?_
  refine s_p (wn rfl) rfl (y_and32 rfl (by omega)) ?_
  refine go ?_
  refine s_p (wn rfl) rfl (y_shr32 rfl (by omega)) ?_
  refine go ?_
  refine s_p (wn rfl) rfl (y_and32 rfl (by omega)) ?_
  refine go ?_
  refine s_p (wn rfl) rfl (y_shr32 rfl (by omega)) ?_
  refine go ?_
  refine s_p (wn rfl) rfl (y_mulU rfl rfl (by omega)) ?_
  refine go ?_
  refine s_p (wn rfl) rfl (y_mulU rfl rfl (by omega)) ?_
  refine go ?_
  refine s_p (wn rfl) rfl (y_shr32 rfl (by omega)) ?_
  refine s_p (wn rfl) rfl (y_addU rfl rfl (by omega)) ?_
  refine go ?_
  refine s_p (wn rfl) rfl (y_and32 rfl (by omega)) ?_
  refine go ?_
  refine s_p (wn rfl) rfl (y_shr32 rfl (by omega)) ?_
  refine go ?_
  refine s_p (wn rfl) rfl (y_mulU rfl rfl (by omega)) ?_
  refine s_p (wn rfl) rfl (y_addU rfl rfl (by omega)) ?_
  refine go ?_
  refine s_p (wn rfl) rfl (y_mulU rfl rfl (by omega)) ?_
  refine go ?_
  refine s_p (wn rfl) rfl (y_addU rfl rfl (by omega)) ?_
  refine go ?_
  refine s_p (wn rfl) rfl (y_shr32 rfl (by omega)) ?_
  refine s_p (wn rfl) rfl (y_addU rfl rfl (by omega)) ?_
  refine go ?_
  refine s_p (wn rfl) rfl (y_mulU rfl rfl (by omega)) ?_
  refine go ?_
  exact end_two Tryd.results63 rfl rfl ⟨by simp, rfl⟩

theorem Mul_small (a b : Int) (w : World) (ha : 0 ≤ a ∧ a ≤ 1) (hb : 0 ≤ b ∧ b ≤ 1000000) :
    Ret Tryd.prog 49 #[.int .u64 a, .int .u64 b] w fun r w' => r = .tuple #[.int .u64 0, .int .u64 (a * b)] ∧ w = w' := by
  refine enter2 30 Tryd.func49 rfl Tryd.ntmps49 rfl (fun fr => ?_)
  refine go ?_
  refine s_call2 (wn rfl) rfl rfl rfl (Mul64_small _ _ _ ha hb) ?_
  rintro _ _ ⟨rfl, rfl⟩
  refine go ?_
  exact end_two Tryd.results49 rfl rfl ⟨rfl, rfl⟩

theorem Repeat_one (v : Value) (a m : Int) (w : World) (hv : IL w v [a]) (hm : 0 ≤ m ∧ m ≤ 1000000) :
    Ret Tryd.prog 44 #[v, .int .i64 m] w fun r w' => OI w' w.heap.size 2 r (List.replicate m.toNat a) ∧ Below w.heap.size w w' := by
  have sv : SV v 1 := hv.sv
  have h0 : ¬ m < 0 := by omega
  have h1 : ¬ (9223372036854775807 < ((1 : Nat) : Int) * m) := by omega
  have h2 : ((1 : Nat) : Int) * m = m := by omega
  refine enter2 48 Tryd.func44 rfl Tryd.ntmps44 rfl (fun fr => ?_)
  refine go ?_
  refine s_call2 (wn rfl) rfl rfl rfl (Mul_small _ _ _ (by decide) hm) ?_
  rintro _ _ ⟨rfl, rfl⟩
  rw [h2] at h1 ⊢
  refine go ?_
  refine s_makeI (B := w.heap.size) (wn rfl) rfl rfl rfl hm.1 (by omega) (Nat.le_refl _) (fun nb w1 ho so hg hb => ?_)
  refine go ?_
  have hb1 := below_of_grownBy hg
  have hl : (List.replicate m.toNat (0 : Int)).length = m.toNat := by simp
  refine s_copyI (l := 0) (xs := List.replicate m.toNat 0) (wn rfl) rfl (by rw [hl, cut_all so]; rfl) rfl ho (Nat.zero_le _) (hv.below hb1) (fun w2 ho2 hg2 => ?_)
  have hb2 := hb1.trans (ho.below_of hg2 hb1.size)
  refine go ?_
  refine w_loop (fun k fr w' => ∃ (i : Nat) (ys : List Int), k = m.toNat - i ∧ i ≤ m.toNat ∧ (1 ≤ i ∨ m.toNat = 0) ∧ fr 7 = nb ∧ fr 8 = .int .i64 i ∧ ys.length = m.toNat ∧ (∀ j < i, ys[j]? = some a) ∧ OI w' w.heap.size 2 nb ys ∧ Below w.heap.size w w') (m.toNat - min 1 m.toNat)
    ⟨min 1 m.toNat, _, rfl, by omega, by omega, rfl, by simp; rfl, ?_, ?_, ho2, hb2⟩ ?_
  · simp; omega
  · intro j hj
    have : j = 0 := by omega
    subst this
    obtain ⟨q, hq⟩ : ∃ q, m.toNat = q + 1 := ⟨m.toNat - 1, by omega⟩
    simp [hq]
  rintro k fr w3 ⟨i, ys, rfl, hi, hi1, f7, f8, hyl, hya, ho, hb⟩
  have so : SV nb m.toNat := hyl ▸ ho.sv
  refine know (t := 7) f7 ?_; refine know (t := 8) f8 ?_
  refine go ?_
  refine cond_dec rfl (fun hlt => ?_) (fun hge => ?_)
  · refine go ?_
    have hcut : ∀ w', (∃ zs : List Int, zs.length = ys.length ∧ OI w' w.heap.size 2 nb zs) → ∃ zs : List Int, zs.length = ys.length ∧ IL w' nb zs := fun w' ⟨zs, h1, h2⟩ => ⟨zs, h1, h2.il⟩
    refine region_hS (fun w' => ∃ zs : List Int, zs.length = ys.length ∧ OI w' w.heap.size 2 nb zs) mixed (fun w4 hb4 => ?_)
    have hS : ∃ zs : List Int, zs.length = ys.length ∧ OI w4 w.heap.size 2 nb zs := ⟨ys, rfl, ho.below hb4⟩
    refine h_p 0 hS ?_ (hrun := fun w hw => yl)
    refine h_p 1 hS ?_ (hrun := fun w hw => yl)
    refine h_p 2 hS ?_ (hrun := fun w hw => yl)
    refine h_p 3 hS ?_ (v := cut nb i ys.length) (hrun := fun w hw => by obtain ⟨zs, h1, h2⟩ := hcut w hw; rw [← h1]; exact y_cutI (l := (i : Int)) rfl rfl h2 (by omega) (by omega))
    refine h_p 4 hS ?_ (hrun := fun w hw => yl)
    refine h_p 5 hS ?_ (hrun := fun w hw => yl)
    refine h_p 6 hS ?_ (v := cut nb 0 i) (hrun := fun w hw => by obtain ⟨zs, h1, h2⟩ := hcut w hw; exact y_cutI_hi (r := (i : Int)) rfl rfl h2 (by omega) (by omega))
    have ho4 := ho.below hb4
    have hb4' := hb.trans (hb4.mono hb.size)
    refine h_one 7 ?_
    refine s_copyI (l := i) (wn rfl) rfl rfl rfl ho4 (by omega) (ho4.il.cut (Nat.zero_le _) (by omega)) (fun w5 ho5 hg5 => ?_)
    have hb5 := hb4'.trans (ho4.below_of hg5 hb4'.size)
    refine w_nil ?_
    have hlen : (ys.take i ++ ((ys.take i).drop 0).take (ys.length - i) ++ ys.drop (i + ((ys.take i).drop 0).length)).length = ys.length := by simp; omega
    have hlt' : (i : Int) + (min ((ys.take i).drop 0).length (ys.length - i) : Nat) ≤ 9000000 := by omega
    have hS5 : ∃ zs : List Int, zs.length = ys.length ∧ OI w5 w.heap.size 2 nb zs := ⟨_, hlen, ho5⟩
    refine h_on ⟨hS5, ?_⟩
    refine h_p 8 hS5 ?_ (hrun := fun w hw => yl)
    refine h_p 9 hS5 ?_ (hrun := fun w hw => yl)
    refine h_nil ?_
    refine go ?_
    have hil : i < m.toNat := by omega
    refine ⟨m.toNat - (i + min ((ys.take i).drop 0).length (ys.length - i)), ?_, _, _, rfl, ?_, .inl (by omega), rfl, by simp; rfl, by rw [hlen]; exact hyl, ?_, ho5, hb5⟩
    · simp; omega
    · simp; omega
    · intro j hj
      simp only [List.drop_zero, List.length_take] at hj
      rw [List.append_assoc, List.getElem?_append]
      have hti : (ys.take i).length = i := by simp; omega
      rw [hti]
      by_cases hji : j < i
      · rw [if_pos hji, List.getElem?_take, if_pos hji]; exact hya j hji
      · rw [if_neg hji, List.getElem?_append]
        rw [if_pos (by simp; omega)]
        rw [List.drop_zero, List.getElem?_take, if_pos (by omega), List.getElem?_take, if_pos (by omega)]
        exact hya _ (by omega)
  · refine go ?_
    have : ys = List.replicate m.toNat a := by
      apply List.ext_getElem?
      intro j
      by_cases hj : j < m.toNat
      · rw [hya j (by omega)]; simp [hj]
      · rw [List.getElem?_eq_none (by omega), List.getElem?_eq_none (by simp; omega)]
    subst this
    exact end_one Tryd.results44 rfl ⟨ho, hb⟩
end Go.Proofs.YtkknhcpjiehgiaaDoor

/- Contracts: orbits, their numbers. -/
namespace Go.Proofs.YtkknhcpjiehgiaaDoor
open Go.Mem Go.RowKit

theorem l01Orbit_any (v : Value) (xss : List (List Int)) (n : Nat) (p : Int) (w : World) (hv : RL w v xss) (hsys : Syst n xss) (hp : 0 ≤ p ∧ p < n) (hN : n ≤ 1000) (hM : xss.length ≤ 1000) :
    Ret Tryd.prog 22 #[v, .int .i64 p] w fun r w' => OI w' w.heap.size 2 r (orbit xss p) ∧ Below w.heap.size w w' := by
  by_cases hne : xss = []
  · subst hne
    exact l01Orbit_ne v [] (p + 1).toNat p w hv (by intro m hm; simp at hm) (by omega) (.inr (by omega)) (by omega) hM
  · exact l01Orbit_ne v xss n p w hv hsys hp (.inl hne) hN hM

set_option maxHeartbeats 4000000 in
theorem orbitLabels_any (v : Value) (xss : List (List Int)) (n : Nat) (w : World) (hv : RL w v xss) (hs : Sym n xss) (hN : n ≤ 1000) (hM : xss.length ≤ 1000) :
    Ret Tryd.prog 32 #[.int .i64 n, v] w fun r w' => ∃ lb, r = .tuple #[lb, .int .i64 (labc n xss)] ∧ OI w' w.heap.size 2 lb (labs n xss) ∧ Below w.heap.size w w' := by
  have sv := hv.sv
  refine enter2 75 Tryd.func32 rfl Tryd.ntmps32 rfl (fun fr => ?_)
  refine go ?_
  refine s_build1 (B := w.heap.size) (wn rfl) rfl rfl (Nat.le_refl _) (fun ob w1 ho so hg hb => ?_)
  have hb1 := below_of_grownBy hg
  refine go ?_
  refine s_call2 (wn rfl) rfl rfl rfl (Repeat_one _ _ _ _ ho.il (by omega)) ?_
  rintro lb w2 ⟨hlb, hb2⟩
  have hlb := hlb.mono hb1.size
  have hb2 := hb1.trans (hb2.mono hb1.size)
  refine go ?_
  refine w_loop (fun k fr w' => ∃ (i : Nat), k = n - i ∧ i ≤ n ∧ fr 1 = v ∧ fr 6 = lb ∧ fr 7 = .int .i64 (labsFrom n xss i).2 ∧ fr 17 = .int .i64 n ∧ fr 18 = .int .i64 i ∧
      OI w' w.heap.size 2 lb (labsFrom n xss i).1 ∧ Below w.heap.size w w') n
    ⟨0, rfl, Nat.zero_le _, rfl, rfl, rfl, rfl, rfl, by simpa [labsFrom] using hlb, hb2⟩ ?_
  rintro k fr w3 ⟨i, rfl, hi, f1, f6, f7, f17, f18, hlb, hb⟩
  have hL := labs_inv hs hN i hi
  have sl := hlb.sv
  have hll := hL.len
  have hc0 := hL.c0
  refine know (t := 1) f1 ?_; refine know (t := 6) f6 ?_; refine know (t := 7) f7 ?_; refine know (t := 17) f17 ?_; refine know (t := 18) f18 ?_
  refine go ?_
  refine cond_dec rfl (fun hlt => ?_) (fun hge => ?_)
  · refine go ?_
    refine cond_dec rfl (fun hold => ?_) (fun hnew => ?_)
    · refine go ?_
      have e : labsFrom n xss (i + 1) = labsFrom n xss i := by
        show (if _ then _ else _) = _
        rw [if_neg (by omega)]
      exact ⟨n - (i + 1), by omega, i + 1, rfl, by omega, rfl, rfl, by rw [e]; rfl, rfl, rfl, by rw [e]; exact hlb, hb⟩
    · have hneg : gi (labsFrom n xss i).1 i < 0 := by omega
      have e : labsFrom n xss (i + 1) = (lab1 xss (labsFrom n xss i).1 (labsFrom n xss i).2 i, (labsFrom n xss i).2 + 1) := by
        show (if _ then _ else _) = _
        rw [if_pos hneg]
      have hip : 0 ≤ (i : Int) ∧ (i : Int) < n := by omega
      generalize (labsFrom n xss i).1 = L at *
      generalize (labsFrom n xss i).2 = c at *
      refine go ?_
      refine s_storeI (wn rfl) rfl rfl hlb (by omega) (by omega) (fun w4 hlb4 hg4 => ?_)
      have hb4 := hb.trans (hlb.below_of hg4 hb.size)
      have hlow : ∀ g, lb.ownBlock = some g → g < w4.heap.size := fun g hg => (hlb4.lt g hg).2
      refine go ?_
      refine s_build1 (B := w4.heap.size) (wn rfl) rfl rfl (Nat.le_refl _) (fun ob w5 ho so hg5 hbk => ?_)
      have hb5 := below_of_grownBy hg5
      have hlb5 := hlb4.below hb5
      have hb5 := hb4.trans (hb5.mono hb4.size)
      have h45 := hg5.size
      refine go ?_
      refine w_loop (fun k fr w' => ∃ (L' o : List Int) (ob : Value), k = 2 * negs L' + o.length ∧ fr 1 = v ∧ fr 6 = lb ∧ fr 7 = .int .i64 c ∧ fr 8 = .int .i64 i ∧ fr 9 = ob ∧ fr 17 = .int .i64 n ∧ fr 18 = .int .i64 i ∧
          OI w' w.heap.size 2 lb L' ∧ OI w' w4.heap.size 2 ob o ∧ Dfs n xss L c i L' o (-1) 0 ∧ o.length + negs L' ≤ 3000 ∧ Below w.heap.size w w' ∧ w4.heap.size ≤ w'.heap.size) (2 * negs (seti L i c) + 1)
        ⟨_, _, ob, rfl, rfl, rfl, rfl, rfl, rfl, rfl, rfl, hlb5, ho, Dfs.start hL hip, ?_, hb5, h45⟩ ?_
      · have := negs_le (seti L i c)
        simp at this ⊢
        omega
      rintro k fr w6 ⟨L', o, ob, rfl, f1, f6, f7, f8, f9, f17, f18, hlb, ho, hD, hsz, hb, h46⟩
      have so := ho.sv
      refine know (t := 1) f1 ?_; refine know (t := 6) f6 ?_; refine know (t := 7) f7 ?_; refine know (t := 8) f8 ?_; refine know (t := 9) f9 ?_; refine know (t := 17) f17 ?_; refine know (t := 18) f18 ?_
      refine go ?_
      refine cond_dec rfl (fun hlt => ?_) (fun hge => ?_)
      · have hne : 0 < o.length := by omega
        have hx := hD.op _ (gi_in (xs := o) (j := o.length - 1) (by omega))
        have hcast : ((o.length - 1 : Nat) : Int) = (o.length : Int) - 1 := by omega
        have hT := hD.take hne
        rw [hcast] at hx hT
        refine go ?_
        have hto : (((o.length : Int) - 1).toNat) = o.length - 1 := by omega
        have ho6 : OI w6 w4.heap.size 2 (cut ob 0 ((o.length : Int) - 1).toNat) (o.take (o.length - 1)) := by
          rw [hto]; simpa using ho.cut (Nat.zero_le _) (by omega)
        generalize cut ob 0 ((o.length : Int) - 1).toNat = ob6 at ho6 ⊢
        refine w_loop (fun k fr w' => ∃ (j : Nat) (L'' o' : List Int) (ob : Value), k = xss.length - j ∧ j ≤ xss.length ∧ fr 1 = v ∧ fr 6 = lb ∧ fr 7 = .int .i64 c ∧ fr 8 = .int .i64 i ∧ fr 9 = ob ∧ fr 10 = .int .i64 (gi o ((o.length : Int) - 1)) ∧
            fr 17 = .int .i64 n ∧ fr 18 = .int .i64 i ∧ fr 46 = v ∧ fr 47 = .int .i64 xss.length ∧ fr 48 = .int .i64 j ∧
            OI w' w.heap.size 2 lb L'' ∧ OI w' w4.heap.size 2 ob o' ∧ Dfs n xss L c i L'' o' (gi o ((o.length : Int) - 1)) j ∧ gi L'' (gi o ((o.length : Int) - 1)) = c ∧ o'.length + negs L'' + 1 ≤ o.length + negs L' ∧ negs L'' ≤ negs L' ∧ Below w.heap.size w w' ∧ w4.heap.size ≤ w'.heap.size) xss.length
          ⟨0, L', _, ob6, rfl, Nat.zero_le _, rfl, rfl, rfl, rfl, rfl, rfl, rfl, rfl, rfl, rfl, rfl, hlb, ho6, hT, hx.2.2, by simp; omega, Nat.le_refl _, hb, h46⟩ ?_
        rintro k fr w7 ⟨j, L'', o', ob, rfl, hj, f1, f6, f7, f8, f9, f10, f17, f18, f46, f47, f48, hlb, ho, hD, hxc, hm1, hm2, hb, h47⟩
        have so := ho.sv
        have sl := hlb.sv
        have hl := hD.len
        have hv7 := hv.below hb
        refine know (t := 1) f1 ?_; refine know (t := 6) f6 ?_; refine know (t := 7) f7 ?_; refine know (t := 8) f8 ?_; refine know (t := 9) f9 ?_; refine know (t := 10) f10 ?_; refine know (t := 17) f17 ?_; refine know (t := 18) f18 ?_; refine know (t := 46) f46 ?_; refine know (t := 47) f47 ?_; refine know (t := 48) f48 ?_
        refine go ?_
        refine cond_dec rfl (fun hlt2 => ?_) (fun hge2 => ?_)
        · refine go ?_
          refine s_ldR (wn rfl) rfl rfl hv7 (by omega) (by omega) (fun u hu su => ?_)
          have hrow := hs.syst.row (j := j) (by omega) hlt2
          have hrl := hrow.1
          have hy := hs.syst.at (j := j) (by omega) hlt2 ⟨hx.1, hx.2.1⟩
          refine go ?_
          refine cond_dec rfl (fun hn => ?_) (fun hn => ?_)
          · have hD' := hD.miss hL hs ⟨hx.1, hx.2.1⟩ hxc (by omega) hn
            have hng := negs_seti hy.1 (by omega) hn hc0.1
            refine go ?_
            refine s_storeI (wn rfl) rfl rfl hlb (by omega) (by omega) (fun w8 hlb8 hg8 => ?_)
            have ho8 := ho.kept hg8 (ho.apart_high hlow)
            have hb8 := hb.trans (hlb.below_of hg8 hb.size)
            have h8 := hg8.size
            refine go ?_
            refine s_build1 (B := w.heap.size) (wn rfl) rfl rfl hb8.size (fun tb w9 ht st hg9 _ => ?_)
            have hb9 := below_of_grownBy hg9
            have ho9 := ho8.below hb9
            have hlb9 := hlb8.below hb9
            have h9 := hg9.size
            have hb9 := hb8.trans (hb9.mono hb8.size)
            refine s_appendI (wn rfl) rfl rfl rfl ho9 ht.il (by simp; omega) (by omega) (fun ob' w10 ho10 so10 hg10 _ => ?_)
            have hlb10 := hlb9.kept hg10 (ho9.apart_low hlow)
            have hb10 := hb9.trans ((ho9.mono hb4.size).below_of hg10 hb9.size)
            have h10 := hg10.size
            refine go ?_
            refine ⟨xss.length - (j + 1), by omega, j + 1, _, _, ob', rfl, by omega, rfl, rfl, rfl, rfl, rfl, rfl, rfl, rfl, rfl, rfl, rfl, hlb10, ho10, hD', ?_, ?_, by omega, hb10, by omega⟩
            · rw [gi_seti _ _ _ _ hy.1 (by omega) hx.1]; split; rfl; exact hxc
            · simp; omega
          · have hD' := hD.hit hL hs hip hneg ⟨hx.1, hx.2.1⟩ hxc (by omega) hn
            refine go ?_
            exact ⟨xss.length - (j + 1), by omega, j + 1, _, _, ob, rfl, by omega, rfl, rfl, rfl, rfl, rfl, rfl, rfl, rfl, rfl, rfl, rfl, hlb, ho, hD', hxc, hm1, hm2, hb, h47⟩
        · obtain rfl : j = xss.length := by omega
          refine go ?_
          exact ⟨2 * negs L'' + o'.length, by omega, L'', o', ob, rfl, rfl, rfl, rfl, rfl, rfl, rfl, rfl, hlb, ho, hD.next, by omega, hb, h47⟩
      · have : o = [] := by cases o with | nil => rfl | cons _ _ => simp at hge
        subst this
        have hfin := hD.done hL hs hN hip
        subst hfin
        refine go ?_
        exact ⟨n - (i + 1), by omega, i + 1, rfl, by omega, rfl, rfl, by rw [e]; rfl, rfl, rfl, by rw [e]; exact hlb, hb⟩
  · obtain rfl : i = n := by omega
    refine go ?_
    exact end_two Tryd.results32 rfl rfl ⟨lb, rfl, hlb, hb⟩
end Go.Proofs.YtkknhcpjiehgiaaDoor

/- Contracts: maniplexes. -/
namespace Go.Proofs.YtkknhcpjiehgiaaDoor
open Go.Mem Go.RowKit

theorem agg_cells {v : Value} {m : Nat} (h : SV v m) : (Value.agg #[v]).cells = #[v] := by
  obtain ⟨a, cap, rfl, _⟩ := h.out
  rfl

theorem rank_any (p : Addr) (v : Value) (m : Nat) (w : World) (hc : w.cell? p = some v) (sv : SV v m) :
    Ret Tryd.prog 29 #[.pointer (some p)] w fun r w' => r = .int .i64 m ∧ w = w' := by
  refine enter1 8 Tryd.func29 rfl Tryd.ntmps29 rfl (fun fr => ?_)
  refine go ?_
  refine s_call1 (wn rfl) rfl rfl (sizeR_any _ _ _ sv) ?_
  rintro _ _ ⟨rfl, rfl⟩
  refine go ?_
  exact end_one Tryd.results29 rfl ⟨rfl, rfl⟩
theorem flags_any (p : Addr) (v : Value) (xss : List (List Int)) (w : World) (hc : w.cell? p = some v) (hv : RL w v xss) (h1 : 1 ≤ xss.length) :
    Ret Tryd.prog 16 #[.pointer (some p)] w fun r w' => r = .int .i64 (nf xss) ∧ w = w' := by
  have sv := hv.sv
  refine enter1 10 Tryd.func16 rfl Tryd.ntmps16 rfl (fun fr => ?_)
  refine go ?_
  refine s_ldR (wn rfl) rfl rfl hv (by omega) (by omega) (fun u hu su => ?_)
  refine s_call1 (wn rfl) rfl rfl (size_any _ _ _ su) ?_
  rintro _ _ ⟨rfl, rfl⟩
  refine go ?_
  exact end_one Tryd.results16 rfl ⟨rfl, rfl⟩

theorem q_call1 {P : Program} {ops : Array Oper} {Q : Exit → Fm → World → Prop} {n : Nat} {f : Fm} {rest : List Oper} {ty : TypeId} {pos : String} {after : Array Edge} {g : Option (Nat × Bool)} {d : Nat}
    {fn : FuncId} {x : Operand} {ats : Array TypeId} {a v : Value} [hf : FunTy P fn] {w0 : World}
    (hw : Wants ⟨some d, .call ⟨.value (.func fn), #[x], ats⟩, ty, pos, after, g⟩ ops n f) (hd : Nat.ble (d + 1) n = true)
    (hx : lk n f x = some a) (hc : ∀ w, Below w0.heap.size w0 w → Ret P fn #[a] w fun r w' => r = v ∧ Below w.heap.size w w')
    (k : WQ P ops w0 Q rest n (.upd f d v)) :
    WQ P ops w0 Q (⟨some d, .call ⟨.value (.func fn), #[x], ats⟩, ty, pos, after, g⟩ :: rest) n f :=
  q_call hw hd (by simp [lk_evo hx]) (fun w hb => (hc w hb).mono fun _ _ h => ⟨h.1, hb.trans (h.2.mono hb.size)⟩) k

set_option maxHeartbeats 8000000 in
theorem l02Is_any (v : Value) (xss : List (List Int)) (w : World) (hv : RL w v xss) :
    Ret Tryd.prog 10 #[.agg #[v]] w fun r w' => r = .bool (decide (IsMan xss)) ∧ Below w.heap.size w w' := by
  have sv := hv.sv
  refine enter1 149 Tryd.func10 rfl Tryd.ntmps10 rfl (fun fr => ?_)
  refine go ?_
  refine s_box (wn rfl) rfl rfl (agg_cells sv) (fun w1 hbx _ _ hg => ?_)
  have hb := below_of_grownBy hg
  have hv := hv.below hb
  generalize (⟨w.heap.size, 0, none⟩ : Addr) = p at *
  refine go ?_
  refine split (p := (xss.length : Int) < 1) (fun hr => ?_) (fun hr => ?_)
  · refine go ?_
    exact end_one Tryd.results10 rfl ⟨by rw [decide_eq_false (fun h => by have := h.m0.r1; omega)], hb⟩
  refine split (p := (5 : Int) < xss.length) (fun hr5 => ?_) (fun hr5 => ?_)
  · refine go ?_
    exact end_one Tryd.results10 rfl ⟨by rw [decide_eq_false (fun h => by have := h.m0.r5; omega)], hb⟩
  obtain ⟨u0, hu0, hc0⟩ := hv.row (j := 0) (by omega) (by omega)
  have su0 : SV u0 (nf xss) := hu0.sv
  refine split (p := (nf xss : Int) < 2) (fun hf => ?_) (fun hf => ?_)
  · refine go ?_
    exact end_one Tryd.results10 rfl ⟨by rw [decide_eq_false (fun h => by have := h.m0.f2; omega)], hb⟩
  refine split (p := (400 : Int) < nf xss) (fun hf4 => ?_) (fun hf4 => ?_)
  · refine go ?_
    exact end_one Tryd.results10 rfl ⟨by rw [decide_eq_false (fun h => by have := h.m0.f400; omega)], hb⟩
  refine go ?_
  refine w_loop (fun k fr w' => ∃ i : Nat, k = xss.length - i ∧ i ≤ xss.length ∧ fr 1 = .pointer (some p) ∧ fr 3 = .int .i64 xss.length ∧ fr 4 = .int .i64 i ∧
      (∀ j : Nat, j < i → (gr xss j).length = nf xss ∧ IsPerm (gr xss j) ∧ IsFree (gr xss j)) ∧ Below w1.heap.size w1 w') xss.length
    ⟨0, rfl, Nat.zero_le _, rfl, rfl, rfl, by simp, Below.refl _ _⟩ ?_
  rintro k fr w2 ⟨i, rfl, hi, f1, f3, f4, hrow, hb2⟩
  have hbx2 := cell_below hbx hb2
  have hv2 := hv.below hb2
  have hbw := hb.trans (hb2.mono hb.size)
  refine know (t := 1) f1 ?_; refine know (t := 3) f3 ?_; refine know (t := 4) f4 ?_
  refine go ?_
  refine cond_dec rfl (fun hlt => ?_) (fun hge => ?_)
  · refine go ?_
    obtain ⟨u0, hu0, hc0⟩ := hv2.row (j := 0) (by omega) (by omega)
    obtain ⟨u, hu, hc⟩ := hv2.row (j := i) (by omega) hlt
    have su0 : SV u0 (nf xss) := hu0.sv
    have su := hu.sv
    refine split (p := ((gr xss i).length : Int) ≠ nf xss) (fun hl => ?_) (fun hl => ?_)
    · refine region_q mixed (by kernel_rfl) ?_; refine qo ?_; refine q_nil ?_
      intro w3 hb3
      have hbw := hbw.trans (hb3.mono hbw.size)
      refine go ?_
      exact end_one Tryd.results10 rfl ⟨by rw [decide_eq_false (fun h => hl (by have := (h.m0.row i (by omega)).1; omega))], hbw⟩
    refine splitb (decide (IsPerm (gr xss i))) (fun hp => ?_) (fun hp => ?_)
    · have hp' : IsPerm (gr xss i) := of_decide_eq_true hp
      refine splitb (decide (IsFree (gr xss i))) (fun hf => ?_) (fun hf => ?_)
      all_goals
        refine region_q mixed (by kernel_rfl) ?_
        refine qo ?_
        refine q_call1 (wy rfl rfl rfl rfl rfl known) rfl rfl (fun w hb => l01Perm_any _ _ _ (hu.below hb)) ?_
        refine qo ?_
        refine q_call1 (wy rfl rfl rfl rfl rfl (by rw [hp]; rfl)) rfl rfl (fun w hb => (l01Free_any _ _ _ (hu.below hb) hp').mono (fun _ _ h => ⟨h.1, h.2 ▸ Below.refl _ _⟩)) ?_
        refine qo ?_
        refine q_nil ?_
        intro w3 hb3
        have hbw := hbw.trans (hb3.mono hbw.size)
        have hb13 := hb2.trans (hb3.mono hb2.size)
        refine go ?_
      · refine ⟨xss.length - (i + 1), by omega, i + 1, rfl, by omega, rfl, rfl, rfl, fun j hj => ?_, hb13⟩
        by_cases hji : j = i
        · subst hji; exact ⟨by omega, hp', of_decide_eq_true hf⟩
        · exact hrow j (by omega)
      · exact end_one Tryd.results10 rfl ⟨by rw [decide_eq_false (fun h => of_decide_eq_false hf (h.m0.row i (by omega)).2.2)], hbw⟩
    · refine region_q mixed (by kernel_rfl) ?_
      refine qo ?_
      refine q_call1 (wy rfl rfl rfl rfl rfl known) rfl rfl (fun w hb => l01Perm_any _ _ _ (hu.below hb)) ?_
      refine qo ?_
      refine q_nil ?_
      intro w3 hb3
      have hbw := hbw.trans (hb3.mono hbw.size)
      refine go ?_
      exact end_one Tryd.results10 rfl ⟨by rw [decide_eq_false (fun h => of_decide_eq_false hp (h.m0.row i (by omega)).2.1)], hbw⟩
  · obtain rfl : i = xss.length := by omega
    clear hi hge
    refine go ?_
    refine w_loop (fun k fr w' => ∃ i : Nat, k = xss.length - i ∧ i ≤ xss.length ∧ fr 1 = .pointer (some p) ∧ fr 3 = .int .i64 xss.length ∧ fr 5 = .int .i64 i ∧
        (∀ a < i, FarRow xss a xss.length) ∧ Below w1.heap.size w1 w') xss.length
      ⟨0, rfl, Nat.zero_le _, rfl, rfl, rfl, by simp, hb2⟩ ?_
    rintro k fr w3 ⟨i, rfl, hi, f1, f3, f5, hfar, hb3⟩
    refine know (t := 1) f1 ?_; refine know (t := 3) f3 ?_; refine know (t := 5) f5 ?_
    refine go ?_
    refine cond_dec rfl (fun hlt => ?_) (fun hge => ?_)
    · refine go ?_
      refine w_loop (fun k fr w' => ∃ q : Nat, k = xss.length - q ∧ i + 2 ≤ q ∧ fr 1 = .pointer (some p) ∧ fr 3 = .int .i64 xss.length ∧ fr 5 = .int .i64 i ∧ fr 6 = .int .i64 q ∧
          FarRow xss i q ∧ Below w1.heap.size w1 w') (xss.length - (i + 2))
        ⟨i + 2, rfl, Nat.le_refl _, rfl, rfl, rfl, rfl, fun k h1 h2 => by omega, hb3⟩ ?_
      rintro k fr w4 ⟨q, rfl, hq, f1, f3, f5, f6, hfq, hb4⟩
      refine know (t := 1) f1 ?_; refine know (t := 3) f3 ?_; refine know (t := 5) f5 ?_; refine know (t := 6) f6 ?_
      refine go ?_
      refine cond_dec rfl (fun hltq => ?_) (fun hgeq => ?_)
      · refine go ?_
        refine w_loop (fun k fr w' => ∃ f : Nat, k = nf xss - f ∧ f ≤ nf xss ∧ fr 1 = .pointer (some p) ∧ fr 3 = .int .i64 xss.length ∧ fr 5 = .int .i64 i ∧ fr 6 = .int .i64 q ∧ fr 7 = .int .i64 f ∧
            (∀ f' < f, FarAt xss i q f') ∧ Below w1.heap.size w1 w') (nf xss)
          ⟨0, rfl, Nat.zero_le _, rfl, rfl, rfl, rfl, rfl, by simp, hb4⟩ ?_
        rintro k fr w5 ⟨f, rfl, hf, f1, f3, f5, f6, f7, hff, hb5⟩
        have hbx5 := cell_below hbx hb5
        have hv5 := hv.below hb5
        have hbw := hb.trans (hb5.mono hb.size)
        obtain ⟨u0, hu0, hc0⟩ := hv5.row (j := 0) (by omega) (by omega)
        obtain ⟨ui, hui, hci⟩ := hv5.row (j := i) (by omega) hlt
        obtain ⟨uq, huq, hcq⟩ := hv5.row (j := q) (by omega) hltq
        have su0 : SV u0 (nf xss) := hu0.sv
        have hri := hrow i (by omega)
        have hrq := hrow q (by omega)
        have sui : SV ui (nf xss) := hri.1 ▸ hui.sv
        have suq : SV uq (nf xss) := hrq.1 ▸ huq.sv
        have hli := hri.1
        have hlq := hrq.1
        refine know (t := 1) f1 ?_; refine know (t := 3) f3 ?_; refine know (t := 5) f5 ?_; refine know (t := 6) f6 ?_; refine know (t := 7) f7 ?_
        refine go ?_
        refine cond_dec rfl (fun hltf => ?_) (fun hgef => ?_)
        · have hgi := hri.2.1.gi (j := f) (by omega) (by omega)
          have hgq := hrq.2.1.gi (j := f) (by omega) (by omega)
          rw [hli] at hgi
          rw [hlq] at hgq
          refine go ?_
          refine split (p := gi (gr xss q) (gi (gr xss i) f) ≠ gi (gr xss i) (gi (gr xss q) f)) (fun hE => ?_) (fun hE => ?_)
          · refine region_q mixed (by kernel_rfl) ?_; refine qo ?_; refine q_nil ?_
            intro w6 hb6
            have hbw := hbw.trans (hb6.mono hbw.size)
            refine go ?_
            exact end_one Tryd.results10 rfl ⟨by rw [decide_eq_false (fun h => hE (h.m0.far i (by omega) q hq (by omega) f (by omega)).1)], hbw⟩
          refine split (p := gi (gr xss i) f = gi (gr xss q) f) (fun hD => ?_) (fun hD => ?_)
          · refine region_q mixed (by kernel_rfl) ?_; refine qo ?_; refine q_nil ?_
            intro w6 hb6
            have hbw := hbw.trans (hb6.mono hbw.size)
            refine go ?_
            exact end_one Tryd.results10 rfl ⟨by rw [decide_eq_false (fun h => (h.m0.far i (by omega) q hq (by omega) f (by omega)).2 hD)], hbw⟩
          · refine region_q mixed (by kernel_rfl) ?_; refine qo ?_; refine q_nil ?_
            intro w6 hb6
            have hb6' := hb5.trans (hb6.mono hb5.size)
            refine go ?_
            refine ⟨nf xss - (f + 1), by omega, f + 1, rfl, by omega, rfl, rfl, rfl, rfl, rfl, fun f' hf' => ?_, hb6'⟩
            by_cases hji : f' = f
            · subst hji; exact ⟨Decidable.not_not.1 hE, hD⟩
            · exact hff f' (by omega)
        · obtain rfl : f = nf xss := by omega
          refine go ?_
          refine ⟨xss.length - (q + 1), by omega, q + 1, rfl, by omega, rfl, rfl, rfl, rfl, fun k h1 h2 f hf => ?_, hb5⟩
          by_cases hkq : k = q
          · subst hkq; exact hff f hf
          · exact hfq k h1 (by omega) f hf
      · refine go ?_
        refine ⟨xss.length - (i + 1), by omega, i + 1, rfl, by omega, rfl, rfl, rfl, fun a ha => ?_, hb4⟩
        by_cases hai : a = i
        · subst hai; exact fun k h1 h2 => hfq k h1 (by omega)
        · exact hfar a (by omega)
    · obtain rfl : i = xss.length := by omega
      have hM : Man0 xss := ⟨by omega, by omega, by omega, by omega, hrow, hfar⟩
      have hbw := hb.trans (hb3.mono hb.size)
      have hN := hM.f400
      refine go ?_
      refine region_h mixed (fun w4 hb4 => ?_)
      have hb14 := hb3.trans (hb4.mono hb3.size)
      have hbx4 := cell_below (cell_below hbx hb3) hb4
      have hbx3 := cell_below hbx hb3
      have hv3 := hv.below hb3
      have hv4 := hv3.below hb4
      obtain ⟨u0, hu0, hc0⟩ := hv3.row (j := 0) (by omega) (by omega)
      have su0 : SV u0 (nf xss) := hu0.sv
      refine h_p 0 hb4 ?_
      refine h_p 1 hb4 ?_
      refine h_p 4 hb4 ?_
      refine h_p 5 hb4 ?_
      refine h_p 6 hb4 ?_
      refine h_p 7 hb4 ?_
      refine h_p 8 hb4 ?_
      refine h_one 2 ?_
      refine s_call2 (wn rfl) rfl rfl rfl (l01Orbit_any _ _ (nf xss) 0 _ hv4 hM.syst (by omega) (by omega) (by omega)) ?_
      rintro ob w5 ⟨ho, hb5⟩
      have so := ho.sv
      have hb45 := hb4.trans (hb5.mono hb4.size)
      have hbw5 := hbw.trans (hb45.mono hbw.size)
      refine w_nil ?_
      refine h_on ⟨hb45, ?_⟩
      refine h_p 3 hb45 ?_
      refine h_p 9 hb45 ?_ (hrun := fun w hw => y_eql rfl rfl)
      refine h_p 10 hb45 ?_
      refine h_nil ?_
      refine go ?_
      refine end_one Tryd.results10 rfl ⟨?_, hbw5⟩
      refine congrArg Value.bool ?_
      exact decide_eq_decide.2 ⟨fun h => ⟨hM, by omega⟩, fun h => by have := h.one; omega⟩
end Go.Proofs.YtkknhcpjiehgiaaDoor

/- Contracts: the program's test of maniplexes. -/
namespace Go.Proofs.YtkknhcpjiehgiaaDoor
open Go.Mem Go.RowKit

set_option maxHeartbeats 8000000 in
theorem isManiplex_any (v : Value) (xss : List (List Int)) (w : World) (hv : RL w v xss) :
    Ret Tryd.prog 14 #[.agg #[v]] w fun r w' => r = .bool (decide (IsMan xss)) ∧ Below w.heap.size w w' := by
  have sv := hv.sv
  refine enter1 101 Tryd.func14 rfl Tryd.ntmps14 rfl (fun fr => ?_)
  refine go ?_
  refine s_box (wn rfl) rfl rfl (agg_cells sv) (fun w1 hbx _ _ hg => ?_)
  have hb := below_of_grownBy hg
  have hv := hv.below hb
  generalize (⟨w.heap.size, 0, none⟩ : Addr) = p at *
  refine go ?_
  refine s_call1 (wn rfl) rfl rfl (rank_any _ _ _ _ hbx sv) ?_
  rintro _ _ ⟨rfl, rfl⟩
  refine s_call3 (wn rfl) rfl rfl rfl rfl (within_any _ _ _ _) ?_
  rintro _ _ ⟨rfl, rfl⟩
  refine splitb (inB xss.length 1 5) (fun hr => ?_) (fun hr => ?_)
  rotate_left
  · have hr' := inB_false hr
    refine go ?_
    exact end_one Tryd.results14 rfl ⟨by rw [decide_eq_false (fun h => hr' ⟨by have := h.m0.r1; omega, by have := h.m0.r5; omega⟩)], hb⟩
  have hr' := inB_true hr
  refine go ?_
  refine s_call1 (wy rfl rfl rfl rfl rfl known) rfl rfl (flags_any _ _ _ _ hbx hv (by omega)) ?_
  rintro _ _ ⟨rfl, rfl⟩
  refine s_call3 (wy rfl rfl rfl rfl rfl known) rfl rfl rfl rfl (within_any _ _ _ _) ?_
  rintro _ _ ⟨rfl, rfl⟩
  refine splitb (inB (nf xss) 2 400) (fun hf => ?_) (fun hf => ?_)
  rotate_left
  · have hf' := inB_false hf
    refine go ?_
    exact end_one Tryd.results14 rfl ⟨by rw [decide_eq_false (fun h => hf' ⟨by have := h.m0.f2; omega, by have := h.m0.f400; omega⟩)], hb⟩
  have hf' := inB_true hf
  refine go ?_
  refine w_loop (fun k fr w' => ∃ i : Nat, k = xss.length - i ∧ i ≤ xss.length ∧ fr 1 = .pointer (some p) ∧ fr 21 = v ∧ fr 22 = .int .i64 xss.length ∧ fr 23 = .int .i64 i ∧
      (∀ j : Nat, j < i → (gr xss j).length = nf xss ∧ IsPerm (gr xss j) ∧ IsFree (gr xss j)) ∧ Below w1.heap.size w1 w') xss.length
    ⟨0, rfl, Nat.zero_le _, rfl, rfl, rfl, rfl, by simp, Below.refl _ _⟩ ?_
  rintro k fr w2 ⟨i, rfl, hi, f1, f21, f22, f23, hrow, hb2⟩
  have hv2 := hv.below hb2
  have hbw := hb.trans (hb2.mono hb.size)
  refine know (t := 1) f1 ?_; refine know (t := 21) f21 ?_; refine know (t := 22) f22 ?_; refine know (t := 23) f23 ?_
  refine go ?_
  refine cond_dec rfl (fun hlt => ?_) (fun hge => ?_)
  · refine go ?_
    refine s_ldR (wn rfl) rfl rfl hv2 (by omega) (by omega) (fun u hu su => ?_)
    refine go ?_
    refine s_call1 (wn rfl) rfl rfl (isFreeInvolution_any _ _ _ hu) ?_
    rintro _ w3 ⟨rfl, hb3⟩
    have hbw := hbw.trans (hb3.mono hbw.size)
    have hb13 := hb2.trans (hb3.mono hb2.size)
    refine splitb (decide (IsPerm (gr xss i) ∧ IsFree (gr xss i))) (fun hp => ?_) (fun hp => ?_)
    · have hp' := of_decide_eq_true hp
      refine go ?_
      refine s_call1 (wy rfl rfl rfl rfl rfl known) rfl rfl (size_any _ _ _ su) ?_
      rintro _ _ ⟨rfl, rfl⟩
      refine s_call1 (wy rfl rfl rfl rfl rfl known) rfl rfl (flags_any _ _ _ _ (cell_below hbx hb13) (hv.below hb13) (by omega)) ?_
      rintro _ _ ⟨rfl, rfl⟩
      refine split (p := ((gr xss i).length : Int) ≠ nf xss) (fun hl => ?_) (fun hl => ?_)
      · refine go ?_
        exact end_one Tryd.results14 rfl ⟨by rw [decide_eq_false (fun h => hl (by have := (h.m0.row i (by omega)).1; omega))], hbw⟩
      · refine go ?_
        refine ⟨xss.length - (i + 1), by omega, i + 1, rfl, by omega, rfl, rfl, rfl, rfl, fun j hj => ?_, hb13⟩
        by_cases hji : j = i
        · subst hji; exact ⟨by omega, hp'⟩
        · exact hrow j (by omega)
    · refine go ?_
      exact end_one Tryd.results14 rfl ⟨by rw [decide_eq_false (fun h => of_decide_eq_false hp (h.m0.row i (by omega)).2)], hbw⟩
  · obtain rfl : i = xss.length := by omega
    clear hi hge
    have hbx2 := cell_below hbx hb2
    refine go ?_
    refine w_loop (fun k fr w' => ∃ i : Nat, k = xss.length - i ∧ i ≤ xss.length ∧ fr 1 = .pointer (some p) ∧ fr 38 = v ∧ fr 39 = .int .i64 xss.length ∧ fr 40 = .int .i64 i ∧
        (∀ a < i, FarRow xss a xss.length) ∧ Below w1.heap.size w1 w') xss.length
      ⟨0, rfl, Nat.zero_le _, rfl, rfl, rfl, rfl, by simp, hb2⟩ ?_
    rintro k fr w3 ⟨i, rfl, hi, f1, f38, f39, f40, hfar, hb3⟩
    have hv3 := hv.below hb3
    have hbx3 := cell_below hbx hb3
    refine know (t := 1) f1 ?_; refine know (t := 38) f38 ?_; refine know (t := 39) f39 ?_; refine know (t := 40) f40 ?_
    refine go ?_
    refine cond_dec rfl (fun hlt => ?_) (fun hge => ?_)
    · refine go ?_
      refine s_ldR (wn rfl) rfl rfl hv3 (by omega) (by omega) (fun ui hui sui => ?_)
      have hri := hrow i (by omega)
      have hli := hri.1
      refine go ?_
      obtain ⟨s, hs, hs1⟩ : ∃ s : Nat, (min ((i : Int) + 2) xss.length).toNat = s ∧ (s = i + 2 ∨ s = xss.length ∧ xss.length ≤ i + 2) := ⟨_, rfl, by omega⟩
      rw [hs]
      have hcR : RL w3 (cut v s xss.length) (xss.drop s) := by
        have := hv3.cut (l := s) (r := xss.length) (by omega) (Nat.le_refl _)
        simpa using this
      have scR := hcR.sv
      have hdl : (xss.drop s).length = xss.length - s := by simp
      generalize cut v s xss.length = vc at hcR scR ⊢
      refine go ?_
      refine w_loop (fun k fr w' => ∃ q : Nat, k = xss.length - q ∧ s ≤ q ∧ q ≤ xss.length ∧ fr 1 = .pointer (some p) ∧ fr 6 = ui ∧ fr 38 = v ∧ fr 39 = .int .i64 xss.length ∧ fr 40 = .int .i64 i ∧
          fr 53 = vc ∧ fr 54 = .int .i64 (xss.drop s).length ∧ fr 55 = .int .i64 ((q : Int) - s) ∧
          FarRow xss i q ∧ Below w3.heap.size w3 w') (xss.length - s)
        ⟨s, rfl, Nat.le_refl _, by omega, rfl, rfl, rfl, rfl, rfl, rfl, rfl, by rw [Int.sub_self]; rfl, fun k h1 h2 => by omega, Below.refl _ _⟩ ?_
      rintro k fr w4 ⟨q, rfl, hsq, hql, f1, f6, f38, f39, f40, f53, f54, f55, hfq, hb4⟩
      have hcR4 := hcR.below hb4
      have hb14 := hb3.trans (hb4.mono hb3.size)
      refine know (t := 1) f1 ?_; refine know (t := 6) f6 ?_; refine know (t := 38) f38 ?_; refine know (t := 39) f39 ?_; refine know (t := 40) f40 ?_; refine know (t := 53) f53 ?_; refine know (t := 54) f54 ?_; refine know (t := 55) f55 ?_
      refine go ?_
      refine cond_dec rfl (fun hltq => ?_) (fun hgeq => ?_)
      · have hrq := hrow q (by omega)
        have hlq := hrq.1
        refine go ?_
        refine s_ldR (wn rfl) rfl rfl hcR4 (by omega) (by omega) (fun uq huq suq => ?_)
        have hgq : gr (xss.drop s) ((q : Int) - s) = gr xss q := by
          have e : ((q : Int) - s) = ((q - s : Nat) : Int) := by omega
          rw [e, gr_drop]
          congr 1
          omega
        rw [hgq] at huq suq
        refine go ?_
        refine s_call1 (wn rfl) rfl rfl (flags_any _ _ _ _ (cell_below hbx hb14) (hv.below hb14) (by omega)) ?_
        rintro _ _ ⟨rfl, rfl⟩
        refine go ?_
        refine w_loop (fun k fr w' => ∃ f : Nat, k = nf xss - f ∧ f ≤ nf xss ∧ fr 1 = .pointer (some p) ∧ fr 6 = ui ∧ fr 8 = uq ∧ fr 38 = v ∧ fr 39 = .int .i64 xss.length ∧ fr 40 = .int .i64 i ∧
          fr 53 = vc ∧ fr 54 = .int .i64 (xss.drop s).length ∧ fr 55 = .int .i64 ((q : Int) - s) ∧ fr 59 = .int .i64 (nf xss) ∧ fr 60 = .int .i64 f ∧
            (∀ f' < f, FarAt xss i q f') ∧ Below w4.heap.size w4 w') (nf xss)
          ⟨0, rfl, Nat.zero_le _, rfl, rfl, rfl, rfl, rfl, rfl, rfl, rfl, rfl, rfl, rfl, by simp, Below.refl _ _⟩ ?_
        rintro k fr w5 ⟨f, rfl, hf, f1, f6, f8, f38, f39, f40, f53, f54, f55, f59, f60, hff, hb5⟩
        have hb15 := hb14.trans (hb5.mono hb14.size)
        have hbw := hb.trans (hb15.mono hb.size)
        have hui5 := hui.below (hb4.trans (hb5.mono hb4.size))
        have huq5 := huq.below hb5
        refine know (t := 1) f1 ?_; refine know (t := 6) f6 ?_; refine know (t := 8) f8 ?_; refine know (t := 38) f38 ?_; refine know (t := 39) f39 ?_; refine know (t := 40) f40 ?_; refine know (t := 53) f53 ?_; refine know (t := 54) f54 ?_; refine know (t := 55) f55 ?_; refine know (t := 59) f59 ?_; refine know (t := 60) f60 ?_
        refine go ?_
        refine cond_dec rfl (fun hltf => ?_) (fun hgef => ?_)
        · have hgi := hri.2.1.gi (j := f) (by omega) (by omega)
          have hgq := hrq.2.1.gi (j := f) (by omega) (by omega)
          rw [hli] at hgi
          rw [hlq] at hgq
          refine go ?_
          refine split (p := gi (gr xss i) f = gi (gr xss q) f) (fun hD => ?_) (fun hD => ?_)
          · refine region_q mixed (by kernel_rfl) ?_; refine qo ?_; refine q_nil ?_
            intro w6 hb6
            have hbw := hbw.trans (hb6.mono hbw.size)
            refine go ?_
            exact end_one Tryd.results14 rfl ⟨by rw [decide_eq_false (fun h => (h.m0.far i (by omega) q (by omega) (by omega) f (by omega)).2 hD)], hbw⟩
          refine split (p := gi (gr xss q) (gi (gr xss i) f) ≠ gi (gr xss i) (gi (gr xss q) f)) (fun hE => ?_) (fun hE => ?_)
          · refine region_q mixed (by kernel_rfl) ?_; refine qo ?_; refine q_nil ?_
            intro w6 hb6
            have hbw := hbw.trans (hb6.mono hbw.size)
            refine go ?_
            exact end_one Tryd.results14 rfl ⟨by rw [decide_eq_false (fun h => hE (h.m0.far i (by omega) q (by omega) (by omega) f (by omega)).1)], hbw⟩
          · refine region_q mixed (by kernel_rfl) ?_; refine qo ?_; refine q_nil ?_
            intro w6 hb6
            have hb6' := hb5.trans (hb6.mono hb5.size)
            refine go ?_
            refine ⟨nf xss - (f + 1), by omega, f + 1, rfl, by omega, rfl, rfl, rfl, rfl, rfl, rfl, rfl, rfl, rfl, rfl, rfl, fun f' hf' => ?_, hb6'⟩
            by_cases hji : f' = f
            · subst hji; exact ⟨Decidable.not_not.1 hE, hD⟩
            · exact hff f' (by omega)
        · obtain rfl : f = nf xss := by omega
          refine go ?_
          refine ⟨xss.length - (q + 1), by omega, q + 1, rfl, by omega, by omega, rfl, rfl, rfl, rfl, rfl, rfl, rfl, by show Value.int _ _ = _; congr 1; omega, fun k h1 h2 f hf => ?_, hb4.trans (hb5.mono hb4.size)⟩
          by_cases hkq : k = q
          · subst hkq; exact hff f hf
          · exact hfq k h1 (by omega) f hf
      · refine go ?_
        refine ⟨xss.length - (i + 1), by omega, i + 1, rfl, by omega, rfl, rfl, rfl, rfl, fun a ha => ?_, hb14⟩
        by_cases hai : a = i
        · subst hai; exact fun k h1 h2 => hfq k h1 (by omega)
        · exact hfar a (by omega)
    · obtain rfl : i = xss.length := by omega
      have hM : Man0 xss := ⟨by omega, by omega, by omega, by omega, hrow, hfar⟩
      have hbw := hb.trans (hb3.mono hb.size)
      have hN := hM.f400
      refine go ?_
      refine region_h mixed (fun w4 hb4 => ?_)
      have hb14 := hb3.trans (hb4.mono hb3.size)
      refine h_p 1 hb4 ?_
      refine h_p 2 hb4 ?_
      refine h_one 0 ?_
      refine s_call1 (wn rfl) rfl rfl (flags_any _ _ _ _ (cell_below hbx hb14) (hv.below hb14) (by omega)) ?_
      rintro _ _ ⟨rfl, rfl⟩
      refine w_nil ?_
      refine h_on ⟨hb4, ?_⟩
      refine h_one 3 ?_
      refine s_call2 (wn rfl) rfl rfl rfl (orbitLabels_any _ _ _ _ (hv.below hb14) hM.sym (by omega) (by omega)) ?_
      rintro _ w5 ⟨lb, rfl, _, hb5⟩
      have hb45 := hb4.trans (hb5.mono hb4.size)
      have hbw5 := hbw.trans (hb45.mono hbw.size)
      refine w_nil ?_
      refine h_on ⟨hb45, ?_⟩
      refine h_p 4 hb45 ?_
      refine h_p 5 hb45 ?_
      refine h_p 6 hb45 ?_
      refine h_p 7 hb45 ?_
      refine h_p 8 hb45 ?_
      refine h_nil ?_
      refine go ?_
      refine end_one Tryd.results14 rfl ⟨?_, hbw5⟩
      refine congrArg Value.bool ?_
      exact decide_eq_decide.2 ⟨fun h => ⟨hM, hM.conn.2 h⟩, fun h => hM.conn.1 h.one⟩
end Go.Proofs.YtkknhcpjiehgiaaDoor

/- Contracts: the maps that agree with the moves. -/
namespace Go.Proofs.YtkknhcpjiehgiaaDoor
open Go.Mem Go.RowKit

/-- r is what a map comes to: a list that is owned, or nil -/
def MapR (w : World) (B : Nat) (T : TypeId) (r : Value) (m : Option (List Int)) : Prop :=
  match m with
  | none => r = .slice none 0 0
  | some xs => OI w B T r xs ∧ xs ≠ []

theorem l02Flags_any (v : Value) (xss : List (List Int)) (w : World) (hv : RL w v xss) (h1 : 1 ≤ xss.length) :
    Ret Tryd.prog 12 #[.agg #[v]] w fun r w' => r = .int .i64 (nf xss) ∧ Below w.heap.size w w' := by
  have sv := hv.sv
  refine enter1 8 Tryd.func12 rfl Tryd.ntmps12 rfl (fun fr => ?_)
  refine go ?_
  refine s_box (wn rfl) rfl rfl (agg_cells sv) (fun w1 hbx _ _ hg => ?_)
  have hb := below_of_grownBy hg
  have hv := hv.below hb
  generalize (⟨w.heap.size, 0, none⟩ : Addr) = p at *
  refine go ?_
  refine s_ldR (wn rfl) rfl rfl hv (by omega) (by omega) (fun u hu su => ?_)
  refine go ?_
  exact end_one Tryd.results12 rfl ⟨rfl, hb⟩

end Go.Proofs.YtkknhcpjiehgiaaDoor

/- Contracts: the program's maps that agree with the moves. -/
namespace Go.Proofs.YtkknhcpjiehgiaaDoor
open Go.Mem Go.RowKit

theorem gi_drop {r : List Int} {i : Nat} : gi (r.drop i) 0 = gi r i := by simp [gi, List.getD, List.getElem?_drop]
end Go.Proofs.YtkknhcpjiehgiaaDoor

/- Contracts: lists of coverings. -/
namespace Go.Proofs.YtkknhcpjiehgiaaDoor
open Go.Mem Go.RowKit

theorem MapR.sv {w : World} {B : Nat} {T : TypeId} {r : Value} {m : Option (List Int)} (h : MapR w B T r m) : SV r ((m.getD []).length) := by
  cases m with
  | none => obtain rfl : r = .slice none 0 0 := h; exact ⟨none, 0, rfl, fun h => absurd rfl h, by simp [maxLen]⟩
  | some xs => exact h.1.sv
theorem MapR.nilV {w : World} {B : Nat} {T : TypeId} {r : Value} {m : Option (List Int)} (h : MapR w B T r m) : Mem.nilV r = m.isNone := by
  cases m with
  | none => obtain rfl : r = .slice none 0 0 := h; rfl
  | some xs => exact nilV_of h.1.sv (by have := h.2; intro e; exact this (List.length_eq_zero_iff.1 e))

end Go.Proofs.YtkknhcpjiehgiaaDoor
