/- Contracts: orbits. -/
import Derived.Test.YtmfegkjjfmmoaaaF1
import Derived.Test.YtmfegkjjfmmoaaaP2
namespace Go.Proofs.Ytmfegkjjfmmoaaa
open Go.Mem Go.RowKit

theorem l01Orbit_ne (v : Value) (xss : List (List Int)) (n : Nat) (p : Int) (w : World) (hv : RL w v xss) (hsys : Syst n xss) (hp : 0 ≤ p ∧ p < n) (hne : xss ≠ [] ∨ n = p + 1) (hN : n ≤ 1000) (hM : xss.length ≤ 1000) :
    Ret Try.prog 105 #[v, .int .i64 p] w fun r w' => OI w' w.heap.size 2 r (orbit xss p) ∧ Below w.heap.size w w' := by
  have sv := hv.sv
  refine enter2 63 Try.func105 rfl Try.ntmps105 rfl (fun fr => ?_)
  refine go ?_
  refine s_build1 (B := w.heap.size) (wn rfl) rfl rfl (Nat.le_refl _) (fun ob w1 ho so hg hb => ?_)
  have hbel := below_of_grownBy hg
  have hv1 := hv.below hbel
  refine go ?_
  refine meet (fun r w' => ∃ s : Int, r 0 = v ∧ r 1 = .int .i64 p ∧ r 5 = ob ∧ r 6 = .int .i64 s ∧ 0 ≤ s ∧ s ≤ n ∧ n ≤ s + p + 1 ∧ w1 = w') ?_ ?_
  · refine cond_dec rfl (fun h => ?_) (fun h => ?_)
    · have hrow := hsys.row (j := 0) (by omega) h
      have hl := hrow.1
      refine go ?_
      refine s_ldR (wn rfl) rfl rfl hv1 (by omega) (by omega) (fun u hu su => ?_)
      refine go ?_
      exact ⟨(gr xss 0).length, rfl, rfl, rfl, rfl, by omega, by omega, by omega, rfl⟩
    · have : xss = [] := by cases xss with | nil => rfl | cons _ _ => simp at h
      refine go ?_
      exact ⟨0, rfl, rfl, rfl, rfl, by omega, by omega, by rcases hne with h | h; exact absurd this h; omega, rfl⟩
  · rintro r _ ⟨s, f0, f1, f5, f6, hs0, hsn, hsp, rfl⟩
    have h1 := hbel.size
    refine know (t := 0) f0 ?_; refine know (t := 1) f1 ?_; refine know (t := 5) f5 ?_; refine know (t := 6) f6 ?_
    refine go ?_
    refine s_makeB (B := w.heap.size) (wn rfl) rfl rfl rfl (by omega) (by omega) (by omega) (fun sb w2 hsb ssb hg2 hb2 => ?_)
    refine go ?_
    refine s_storeB (wn rfl) rfl rfl hsb (by omega) (by simp; omega) (fun w3 hsb3 hg3 => ?_)
    have ho2 := ho.below (below_of_grownBy hg2)
    have ho3 := ho2.kept hg3 (ho2.apart_OB hsb (by decide))
    have h2 := hg2.size
    have hbel3 := (hbel.trans ((below_of_grownBy hg2).mono h1)).trans (hsb.below_of hg3 (by omega))
    refine go ?_
    refine w_loop (fun k fr w' => ∃ (i : Nat) (ob : Value) (seen : List Bool), k = n - i ∧ i ≤ (bfs xss p i).length ∧ fr 0 = v ∧ fr 5 = ob ∧ fr 7 = sb ∧ fr 8 = .int .i64 i ∧
        OI w' w.heap.size 2 ob (bfs xss p i) ∧ OB w' w.heap.size 4 sb seen ∧ Orb n seen (bfs xss p i) ∧ Below w.heap.size w w') n
      ⟨0, ob, _, rfl, Nat.zero_le _, rfl, rfl, rfl, rfl, ho3, hsb3, Orb.start hp (by omega), hbel3⟩ ?_
    rintro k fr w4 ⟨i, ob, seen, rfl, hi, f0, f5, f7, f8, ho, hs, horb, hbel⟩
    have so := ho.sv
    have hle := horb.le
    refine know (t := 0) f0 ?_; refine know (t := 5) f5 ?_; refine know (t := 7) f7 ?_; refine know (t := 8) f8 ?_
    refine go ?_
    refine cond_dec rfl (fun hlt => ?_) (fun hge => ?_)
    · refine go ?_
      have hx : 0 ≤ gi (bfs xss p i) i ∧ gi (bfs xss p i) i < n := horb.rng _ (gi_mem (by omega) hlt)
      refine w_loop (fun k fr w' => ∃ (j : Nat) (ob : Value) (seen : List Bool) (o : List Int), k = xss.length - j ∧ j ≤ xss.length ∧ fr 0 = v ∧ fr 5 = ob ∧ fr 7 = sb ∧ fr 8 = .int .i64 i ∧ fr 9 = .int .i64 j ∧
          o = visits (bfs xss p i) ((images xss (gi (bfs xss p i) i)).take j) ∧ OI w' w.heap.size 2 ob o ∧ OB w' w.heap.size 4 sb seen ∧ Orb n seen o ∧ Below w.heap.size w w') xss.length
        ⟨0, ob, seen, _, rfl, Nat.zero_le _, rfl, rfl, rfl, rfl, rfl, by simp [visits], ho, hs, horb, hbel⟩ ?_
      rintro k fr w5 ⟨j, ob, seen, o, rfl, hj, f0, f5, f7, f8, f9, hoe, ho, hs, horb, hbel⟩
      have so := ho.sv
      have ss := hs.sv
      have hle := horb.le
      have hv5 := hv.below hbel
      have hol : (bfs xss p i).length ≤ o.length := by rw [hoe]; exact length_visits _ _
      have hgo : gi o i = gi (bfs xss p i) i := by rw [hoe]; exact gi_visits (by omega) hlt
      refine know (t := 0) f0 ?_; refine know (t := 5) f5 ?_; refine know (t := 7) f7 ?_; refine know (t := 8) f8 ?_; refine know (t := 9) f9 ?_
      refine go ?_
      refine cond_dec rfl (fun hlt2 => ?_) (fun hge2 => ?_)
      · refine go ?_
        obtain ⟨u, hu, hcell⟩ := hv5.row (j := j) (by omega) hlt2
        have su := hu.sv
        have hrow := hsys.row (j := j) (by omega) hlt2
        have hrl := hrow.1
        have hx' : 0 ≤ gi o i ∧ gi o i < n := by rw [hgo]; exact hx
        refine region_q mixed (by kernel_rfl) ?_; refine qo ?_; refine q_nil ?_
        intro w6 hb6
        have ho := ho.below hb6
        have hs := hs.below hb6
        have hbel := hbel.trans (hb6.mono hbel.size)
        have hy := hsys.at (j := j) (x := gi o i) (by omega) hlt2 hx'
        have hsl := horb.len
        refine go ?_
        have hstep : visits (bfs xss p i) ((images xss (gi (bfs xss p i) i)).take (j + 1)) = visit o (gi (gr xss j) (gi o i)) := by
          rw [visits_take_succ (by rw [length_images]; omega), gi_images (by omega), ← hoe, hgo]
        refine cond_split rfl (fun hn => ?_) (fun hn => ?_)
        · have hn : gb seen (gi (gr xss j) (gi o i)) = false := by simpa using hn
          obtain ⟨hv1, horb'⟩ := horb.miss hy hn
          refine go ?_
          refine s_storeB (wn rfl) rfl rfl hs (by omega) (by omega) (fun w7 hs7 hg7 => ?_)
          have ho7 := ho.kept hg7 (ho.apart_OB hs (by decide))
          have hb7 := hbel.trans (hs.below_of hg7 hbel.size)
          refine go ?_
          refine s_build1 (B := w.heap.size) (wn rfl) rfl rfl hb7.size (fun tb w8 ht st hg8 _ => ?_)
          have hb8 := below_of_grownBy hg8
          have ho8 := ho7.below hb8
          have hs8 := hs7.below hb8
          have hbel8 := hb7.trans (hb8.mono hb7.size)
          refine s_appendI (wn rfl) rfl rfl rfl ho8 ht.il (by simp; omega) hbel8.size (fun ob' w9 ho9 so9 hg9 _ => ?_)
          have hs9 := hs8.kept hg9 (hs8.apart_OI ho8 (by decide))
          have hbel9 := hbel8.trans (ho8.below_of hg9 hbel8.size)
          refine go ?_
          exact ⟨xss.length - (j + 1), by omega, j + 1, ob', _, _, rfl, by omega, rfl, rfl, rfl, rfl, rfl, by rw [hstep, hv1], ho9, hs9, horb', hbel9⟩
        · have hn : gb seen (gi (gr xss j) (gi o i)) = true := by simpa using hn
          refine go ?_
          exact ⟨xss.length - (j + 1), by omega, j + 1, ob, _, o, rfl, by omega, rfl, rfl, rfl, rfl, rfl, by rw [hstep, horb.hit hy hn], ho, hs, horb, hbel⟩
      · refine go ?_
        have hbs : o = bfs xss p (i + 1) := by
          rw [hoe, visits_take_all (by rw [length_images]; omega), bfs_succ (by omega)]
        subst hbs
        exact ⟨n - (i + 1), by omega, i + 1, ob, seen, rfl, by omega, rfl, rfl, rfl, rfl, ho, hs, horb, hbel⟩
    · refine go ?_
      exact end_one Try.results105 rfl ⟨by rw [orbit_eq (i := i) (by omega) (by omega)]; exact ho, hbel⟩
end Go.Proofs.Ytmfegkjjfmmoaaa
