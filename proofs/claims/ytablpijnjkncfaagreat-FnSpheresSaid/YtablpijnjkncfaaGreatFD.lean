/- Texts laid together: F18 F19. -/
import Derived.Test.YtablpijnjkncfaaGreatFC
import Derived.Test.YtablpijnjkncfaaGreatPB
/- Contracts: numbers of orbits, on both sides; FlagOrbits, IsRegular, IsChiral. -/
namespace Go.Proofs.YtablpijnjkncfaaGreat
open Go.Mem Go.RowKit
set_option linter.unusedVariables false

set_option maxHeartbeats 4000000 in
set_option maxRecDepth 100000 in
theorem l01Orbits_any (v : Value) (xss : List (List Int)) (n : Nat) (w : World) (hv : RL w v xss) (hs : Sym n xss) (hN : n ≤ 1000) (hM : xss.length ≤ 1000) :
    Ret Tryz.prog 44 #[.int .i64 n, v] w fun r w' => OI w' w.heap.size 2 r (labs n xss) ∧ Below w.heap.size w w' := by
  have sv := hv.sv
  refine enter2 49 Tryz.func44 rfl Tryz.ntmps44 rfl (fun fr => ?_)
  refine go ?_
  refine s_build0 (B := w.heap.size) (wn rfl) rfl (Nat.le_refl _) (fun ob w1 ho so hg1 _ => ?_)
  have hb1 := below_of_grownBy hg1
  refine go ?_
  refine w_loop (fun k fr w' => ∃ (i : Nat) (ob : Value), k = n - i ∧ i ≤ n ∧ fr 0 = .int .i64 n ∧ fr 1 = v ∧ fr 5 = ob ∧ fr 6 = .int .i64 i ∧
      OI w' w.heap.size 2 ob (List.replicate i (-1)) ∧ Below w.heap.size w w') n
    ⟨0, ob, rfl, Nat.zero_le _, rfl, rfl, rfl, rfl, ho, hb1⟩ ?_
  rintro k fr w2 ⟨i, ob, rfl, hi, f0, f1, f5, f6, ho, hb⟩
  have so := ho.sv
  refine know (t := 0) f0 ?_; refine know (t := 1) f1 ?_; refine know (t := 5) f5 ?_; refine know (t := 6) f6 ?_
  refine go ?_
  refine cond_dec rfl (fun hlt => ?_) (fun hge => ?_)
  · refine go ?_
    refine s_build1 (B := w.heap.size) (wn rfl) rfl rfl hb.size (fun tb w3 ht st hg3 _ => ?_)
    have hb3 := below_of_grownBy hg3
    have ho3 := ho.below hb3
    have hb3 := hb.trans (hb3.mono hb.size)
    have h3 := hb3.size
    refine go ?_
    refine s_appendI (wn rfl) rfl rfl rfl ho3 ht.il (by simp; omega) (by omega) (fun ob' w4 ho4 so4 hg4 _ => ?_)
    have hb4 := hb3.trans (ho3.below_of hg4 hb3.size)
    refine go ?_
    exact ⟨n - (i + 1), by omega, i + 1, ob', rfl, by omega, rfl, rfl, rfl, rfl, by rw [List.replicate_succ']; exact ho4, hb4⟩
  obtain rfl : i = n := by omega
  refine go ?_
  refine w_loop (fun k fr w' => ∃ (j : Nat), k = i - j ∧ j ≤ i ∧ fr 0 = .int .i64 i ∧ fr 1 = v ∧ fr 5 = ob ∧ fr 7 = .int .i64 (labsFrom i xss j).2 ∧ fr 8 = .int .i64 j ∧
      OI w' w.heap.size 2 ob (labsFrom i xss j).1 ∧ Below w.heap.size w w') i
    ⟨0, rfl, Nat.zero_le _, rfl, rfl, rfl, rfl, rfl, by simpa [labsFrom] using ho, hb⟩ ?_
  rintro k fr w3 ⟨j, rfl, hj, f0, f1, f5, f7, f8, ho, hb⟩
  have hL := labs_inv hs hN j hj
  have so := ho.sv
  have hll := hL.len
  have hc0 := hL.c0
  refine know (t := 0) f0 ?_; refine know (t := 1) f1 ?_; refine know (t := 5) f5 ?_; refine know (t := 7) f7 ?_; refine know (t := 8) f8 ?_
  refine go ?_
  refine cond_dec rfl (fun hlt => ?_) (fun hge => ?_)
  · refine go ?_
    refine cond_dec rfl (fun hold => ?_) (fun hnew => ?_)
    · refine go ?_
      have e : labsFrom i xss (j + 1) = labsFrom i xss j := by
        show (if _ then _ else _) = _
        rw [if_neg (by omega)]
      exact ⟨i - (j + 1), by omega, j + 1, rfl, by omega, rfl, rfl, rfl, by rw [e]; rfl, rfl, by rw [e]; exact ho, hb⟩
    · have hneg : gi (labsFrom i xss j).1 j < 0 := by omega
      have e : labsFrom i xss (j + 1) = (lab1 xss (labsFrom i xss j).1 (labsFrom i xss j).2 j, (labsFrom i xss j).2 + 1) := by
        show (if _ then _ else _) = _
        rw [if_pos hneg]
      have hip : 0 ≤ (j : Int) ∧ (j : Int) < i := by omega
      have ho' : ∀ x ∈ orbit xss j, 0 ≤ x ∧ x < i := fun x hx => ((mem_orbit hs.syst hip hN).1 hx).rng hs.syst hip
      have hol := orbit_le hs.syst hip hN
      rw [← setAll_orbit (L := (labsFrom i xss j).1) hs.syst hip hN hll] at e
      generalize (labsFrom i xss j).1 = L at *
      generalize (labsFrom i xss j).2 = c at *
      refine go ?_
      refine s_call2 (wn rfl) rfl rfl rfl (l01Orbit_any _ _ _ _ _ (hv.below hb) hs.syst hip hN hM) ?_
      rintro rb w4 ⟨hr, hb4⟩
      have ho4 := ho.below hb4
      have hb4 := hb.trans (hb4.mono hb.size)
      have hlow : ∀ g, ob.ownBlock = some g → g < w3.heap.size := fun g hg => (ho.lt g hg).2
      generalize orbit xss j = O at *
      refine go ?_
      refine w_loop (fun k fr w' => ∃ (q : Nat), k = O.length - q ∧ q ≤ O.length ∧ fr 0 = .int .i64 i ∧ fr 1 = v ∧ fr 5 = ob ∧ fr 7 = .int .i64 c ∧ fr 8 = .int .i64 j ∧ fr 9 = rb ∧ fr 10 = .int .i64 q ∧
          OI w' w.heap.size 2 ob (setAll L c (O.take q)) ∧ OI w' w3.heap.size 2 rb O ∧ Below w.heap.size w w') O.length
        ⟨0, rfl, Nat.zero_le _, rfl, rfl, rfl, rfl, rfl, rfl, rfl, by simpa [setAll] using ho4, hr, hb4⟩ ?_
      rintro k fr w5 ⟨q, rfl, hq, f0, f1, f5, f7, f8, f9, f10, ho, hr, hb⟩
      have so := ho.sv
      have sr := hr.sv
      have hsl := length_setAll c (O.take q) L
      refine know (t := 0) f0 ?_; refine know (t := 1) f1 ?_; refine know (t := 5) f5 ?_; refine know (t := 7) f7 ?_; refine know (t := 8) f8 ?_; refine know (t := 9) f9 ?_; refine know (t := 10) f10 ?_
      refine go ?_
      refine cond_dec rfl (fun hlt2 => ?_) (fun hge2 => ?_)
      · have hx := ho' _ (gi_in (xs := O) (j := q) (by omega))
        refine go ?_
        refine s_storeI (wn rfl) rfl rfl ho (by omega) (by omega) (fun w6 ho6 hg6 => ?_)
        have hr6 := hr.kept hg6 (hr.apart_high hlow)
        have hb6 := hb.trans (ho.below_of hg6 hb.size)
        refine go ?_
        exact ⟨O.length - (q + 1), by omega, q + 1, rfl, by omega, rfl, rfl, rfl, rfl, rfl, rfl, rfl, by rw [setAll_take_succ (by omega)]; exact ho6, hr6, hb6⟩
      · obtain rfl : q = O.length := by omega
        rw [List.take_length] at ho
        refine go ?_
        exact ⟨i - (j + 1), by omega, j + 1, rfl, by omega, rfl, rfl, rfl, by rw [e]; rfl, rfl, by rw [e]; exact ho, hb⟩
  · obtain rfl : j = i := by omega
    refine go ?_
    exact end_one Tryz.results44 rfl ⟨ho, hb⟩

theorem l02Greatest_any (v : Value) (xs : List Int) (w : World) (hv : IL w v xs) (hx : ∀ x ∈ xs, x < 1000000000000) :
    Ret Tryz.prog 83 #[v] w fun r w' => r = .int .i64 (gre xs) ∧ w = w' := by
  have sv := hv.sv
  have hcap := sv.le
  refine enter1 23 Tryz.func83 rfl Tryz.ntmps83 rfl (fun fr => ?_)
  refine go ?_
  refine w_loop (fun k fr w' => ∃ (i : Nat), k = xs.length - i ∧ i ≤ xs.length ∧ fr 0 = v ∧ fr 3 = .int .i64 (gre (xs.take i)) ∧ fr 4 = .int .i64 i ∧ w = w') xs.length
    ⟨0, rfl, Nat.zero_le _, rfl, by simp [gre]; rfl, rfl, rfl⟩ ?_
  rintro k fr _ ⟨i, rfl, hi, f0, f3, f4, rfl⟩
  refine know (t := 0) f0 ?_; refine know (t := 3) f3 ?_; refine know (t := 4) f4 ?_
  refine go ?_
  refine cond_dec rfl (fun hlt => ?_) (fun hge => ?_)
  · have hy := hx _ (gi_in (xs := xs) (j := i) (by omega))
    have hg := gre_take_succ (xs := xs) (k := i) (by omega)
    have hgl := gre_le (xs := xs.take i) (c := 1000000000000) (by omega) (fun x h => hx x (List.mem_of_mem_take h))
    refine go ?_
    refine cond_dec rfl (fun h => ?_) (fun h => ?_)
    · rw [if_pos h] at hg
      refine go ?_
      exact ⟨xs.length - (i + 1), by omega, i + 1, rfl, by omega, rfl, by rw [hg]; rfl, rfl, rfl⟩
    · rw [if_neg h] at hg
      refine go ?_
      exact ⟨xs.length - (i + 1), by omega, i + 1, rfl, by omega, rfl, by rw [hg]; rfl, rfl, rfl⟩
  · obtain rfl : i = xs.length := by omega
    rw [List.take_length]
    refine go ?_
    exact end_one Tryz.results83 rfl ⟨rfl, rfl⟩
end Go.Proofs.YtablpijnjkncfaaGreat

/- Contracts: the orbits of flags; FlagOrbits, IsRegular, IsChiral, on both sides. -/
namespace Go.Proofs.YtablpijnjkncfaaGreat
open Go.Mem Go.RowKit
set_option linter.unusedVariables false
end Go.Proofs.YtablpijnjkncfaaGreat
