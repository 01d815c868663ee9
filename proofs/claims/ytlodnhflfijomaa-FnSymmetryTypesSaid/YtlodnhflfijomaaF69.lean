/- Contracts: turned grids. -/
import Derived.Test.YtlodnhflfijomaaF63
namespace Go.Proofs.Ytlodnhflfijomaa
open Go.Mem Go.RowKit
set_option linter.unusedVariables false
set_option linter.unusedSimpArgs false

set_option maxHeartbeats 8000000 in
set_option maxRecDepth 100000 in
theorem l06Turned_1  (a : Int) (b : Int) (w : World)  (ea : a = 1) (eb : b = 1) :
    Ret Try.prog 168 #[.int .i64 a, .int .i64 b] w fun r w' => ∃ x xss, r = .agg #[x] ∧ OM w' w.heap.size w'.heap.size 40 2 x xss ∧ xss.length = 3 ∧ Syst 16 xss ∧ Below w.heap.size w w' := by
  have hb := Below.refl w.heap.size w
  refine enter2 130 Try.func168 rfl Try.ntmps168 rfl (fun fr => ?_)
  subst ea eb
  have sz0 := hb.size
  refine go ?_
  refine s_alloc (B := w.heap.size) (wn rfl) rfl (by first | exact Nat.le_refl _ | omega) (fun w1 p4 hx4 hg1 hpp4 => ?_)
  have hb1 := below_of_grownBy hg1
  have sw1 := hb1.size
  replace hb := hb.trans (hb1.mono hb.size)
  have hlt_hx4 := hx4.lt
  have sz1 := hb.size
  refine go ?_
  refine s_p (wn rfl) rfl (y_mul rfl rfl (by omega)) ?_
  refine go ?_
  refine s_p (wn rfl) rfl (y_mul rfl rfl (by omega)) ?_
  refine go ?_
  have sbs1 := hb.size
  have hx4_b1 := hx4
  have hbB1 := Below.refl w1.heap.size w1
  refine go ?_
  refine w_loop (fun kk fr w' => ∃ (i : Nat), kk = 1 - i ∧ i ≤ 1 ∧ fr 0 = .int .i64 1 ∧ fr 1 = .int .i64 1 ∧ fr 4 = .pointer (some p4) ∧ fr 5 = .int .i64 2 ∧ fr 6 = .int .i64 i ∧ Below w1.heap.size w1 w') (1)
    ⟨0, rfl, Nat.zero_le _, rfl, rfl, rfl, rfl, rfl, hbB1⟩ ?_
  rintro kk fr w2 ⟨i, rfl, hi, f0, f1, f4, f5, f6, hbB1⟩
  have sw2 := hbB1.size
  have hx4 := hx4_b1.below hbB1
  refine know (t := 0) f0 ?_; refine know (t := 1) f1 ?_; refine know (t := 4) f4 ?_; refine know (t := 5) f5 ?_; refine know (t := 6) f6 ?_
  refine go ?_
  refine s_p (wn rfl) rfl (y_mul rfl rfl (by omega)) ?_
  refine go ?_
  by_cases hR : i = 1
  rotate_left
  · have k1 : (1 + (i : Int) * 1) % 2 ≠ 0 := by omega
    refine go ?_
    refine ⟨1 - (i + 1), by omega, i + 1, rfl, by omega, rfl, rfl, rfl, rfl, rfl, hbB1⟩
  subst hR
  have k1 : ¬ ((1 + ((1 : Nat) : Int) * 1) % 2 ≠ 0) := by omega
  have k2 : ¬ (((((1 : Nat) : Int) * 1 - 1) % 2 + 2) % 2 ≠ 0) := by omega
  refine go ?_
  refine s_p (wy rfl rfl rfl rfl rfl known) rfl (y_mul rfl rfl (by omega)) ?_
  refine go ?_
  have sbs2 := hbB1.size
  have hx4_b2 := hx4
  have hbB2 := Below.refl w2.heap.size w2
  have szq3 := hbB2.size
  refine s_build0 (B := w2.heap.size) (wn rfl) rfl szq3 (fun za w3 hza so3 hg3 hk0 => ?_)
  have hb3 := below_of_grownBy hg3
  have hlt0 := fun g hg => (hza.lt g hg).2
  have sw3 := hb3.size
  replace hx4 := hx4.below hb3
  replace hbB2 := hbB2.trans (hb3.mono hbB2.size)
  refine go ?_
  have szq4 := hbB2.size
  refine s_build0 (B := w2.heap.size) (wn rfl) rfl szq4 (fun zb w4 hzb so4 hg4 hk1 => ?_)
  have hb4 := below_of_grownBy hg4
  have hlt1 := fun g hg => (hzb.lt g hg).2
  have sw4 := hb4.size
  replace hx4 := hx4.below hb4
  replace hza := hza.below hb4
  replace hbB2 := hbB2.trans (hb4.mono hbB2.size)
  refine go ?_
  have szq5 := hbB2.size
  refine s_build0 (B := w2.heap.size) (wn rfl) rfl szq5 (fun zc w5 hzc so5 hg5 hk2 => ?_)
  have hb5 := below_of_grownBy hg5
  have hlt2 := fun g hg => (hzc.lt g hg).2
  have sw5 := hb5.size
  replace hx4 := hx4.below hb5
  replace hza := hza.below hb5
  replace hzb := hzb.below hb5
  replace hbB2 := hbB2.trans (hb5.mono hbB2.size)
  refine go ?_
  have hT : Tri w5 w2.heap.size 2 za zb zc [] [] [] := ⟨hza, hzb, hzc, Ap.new hlt0 hk1, Ap.new (fun g hg => by have := hlt0 g hg; omega) hk2, Ap.new hlt1 hk2⟩
  refine go ?_
  refine w_loop (fun kk fr w' => ∃ (i : Nat) (va : Value) (vb : Value) (vc : Value) (X : List Int) (Y : List Int) (Z : List Int), kk = 16 - i ∧ i ≤ 16 ∧ fr 4 = .pointer (some p4) ∧ fr 5 = .int .i64 2 ∧ fr 6 = .int .i64 1 ∧ fr 7 = va ∧ fr 8 = vb ∧ fr 9 = vc ∧ fr 10 = .int .i64 i ∧ (Tri w' w2.heap.size 2 va vb vc X Y Z) ∧ (X.length = i) ∧ (Y.length = i) ∧ (Z.length = i) ∧ (∀ x ∈ X, 0 ≤ x ∧ x < ((16 : Nat) : Int)) ∧ (∀ x ∈ Y, 0 ≤ x ∧ x < ((16 : Nat) : Int)) ∧ (∀ x ∈ Z, 0 ≤ x ∧ x < ((16 : Nat) : Int)) ∧ Below w2.heap.size w2 w') (16)
    ⟨0, za, zb, zc, [], [], [], rfl, Nat.zero_le _, rfl, rfl, rfl, rfl, rfl, rfl, rfl, hT, rfl, rfl, rfl, by simp, by simp, by simp, hbB2⟩ ?_
  rintro kk fr w6 ⟨i, va, vb, vc, X, Y, Z, rfl, hi, f4, f5, f6, f7, f8, f9, f10, hT, lX, lY, lZ, rX, rY, rZ, hbB2⟩
  have sw6 := hbB2.size
  have hx4 := hx4_b2.below hbB2
  refine know (t := 4) f4 ?_; refine know (t := 5) f5 ?_; refine know (t := 6) f6 ?_; refine know (t := 7) f7 ?_; refine know (t := 8) f8 ?_; refine know (t := 9) f9 ?_; refine know (t := 10) f10 ?_
  refine go ?_
  refine s_p (wn rfl) rfl (y_mul rfl rfl (by omega)) ?_
  refine go ?_
  refine cond_dec rfl (fun hlt => ?_) (fun hge => ?_)
  · refine go ?_
    refine s_p (wn rfl) rfl (y_xor1 rfl (by omega)) ?_
    refine go ?_
    have szq7 := hbB2.size
    refine s_build1 (B := w2.heap.size) (wn rfl) rfl rfl szq7 (fun tb w7 ht st hg7 _ => ?_)
    have hb7 := below_of_grownBy hg7
    have sw7 := hb7.size
    replace hx4 := hx4.below hb7
    replace hT := hT.below hb7
    replace hbB2 := hbB2.trans (hb7.mono hbB2.size)
    have szq8 := hbB2.size
    refine s_appendI (wn rfl) rfl rfl rfl hT.oa ht.il (by simp; omega) szq8 (fun va' w8 hN so hgN hgrow => ?_)
    replace hbB2 := hbB2.trans (hT.oa.below_of hgN szq8)
    have sw8 := hgN.size
    replace hT := hT.app1 hN hgN hgrow
    clear hN hgrow
    replace hx4 := hx4_b2.below hbB2
    have lX' : (X ++ [(if (i : Int) % 2 = 0 then (i : Int) + 1 else (i : Int) - 1)]).length = i + 1 := by simp [lX]
    have rX' : ∀ x ∈ X ++ [(if (i : Int) % 2 = 0 then (i : Int) + 1 else (i : Int) - 1)], 0 ≤ x ∧ x < ((16 : Nat) : Int) := fun x hx => by
      rcases List.mem_append.1 hx with hx | hx
      · exact rX x hx
      · simp at hx; subst hx; split <;> omega
    generalize X ++ [(if (i : Int) % 2 = 0 then (i : Int) + 1 else (i : Int) - 1)] = X2 at *
    refine go ?_
    refine meet (fun r w' => ∃ (vb' : Value) (Y2 : List Int), r 4 = .pointer (some p4) ∧ r 5 = .int .i64 2 ∧ r 6 = .int .i64 1 ∧ r 7 = va' ∧ r 8 = vb' ∧ r 9 = vc ∧ r 10 = .int .i64 i ∧ r 11 = .int .i64 ((i : Int) / 8) ∧ r 12 = .int .i64 ((i : Int) % 8) ∧ Tri w' w2.heap.size 2 va' vb' vc X2 Y2 Z ∧ Y2.length = i + 1 ∧ (∀ x ∈ Y2, 0 ≤ x ∧ x < ((16 : Nat) : Int)) ∧ Below w2.heap.size w2 w') ?_ ?_
    · refine go ?_
      refine cond_dec rfl (fun hev => ?_) (fun hev => ?_)
      · refine go ?_
        refine s_p (wn rfl) rfl (y_mul rfl rfl (by omega)) ?_
        refine go ?_
        have szq9 := hbB2.size
        refine s_build1 (B := w2.heap.size) (wn rfl) rfl rfl szq9 (fun tb w9 ht st hg9 _ => ?_)
        have hb9 := below_of_grownBy hg9
        have sw9 := hb9.size
        replace hx4 := hx4.below hb9
        replace hT := hT.below hb9
        replace hbB2 := hbB2.trans (hb9.mono hbB2.size)
        have szq10 := hbB2.size
        refine s_appendI (wn rfl) rfl rfl rfl hT.ob ht.il (by simp; omega) szq10 (fun vb' w10 hN so hgN hgrow => ?_)
        replace hbB2 := hbB2.trans (hT.ob.below_of hgN szq10)
        have sw10 := hgN.size
        replace hT := hT.app2 hN hgN hgrow
        clear hN hgrow
        replace hx4 := hx4_b2.below hbB2
        refine go ?_
        exact ⟨vb', _, rfl, rfl, rfl, rfl, rfl, rfl, rfl, rfl, rfl, hT, by simp [lY], fun x hx => by
          rcases List.mem_append.1 hx with hx | hx
          · exact rY x hx
          · simp at hx; subst hx; omega, hbB2⟩
      · refine go ?_
        refine s_p (wn rfl) rfl (y_mul rfl rfl (by omega)) ?_
        refine go ?_
        have szq11 := hbB2.size
        refine s_build1 (B := w2.heap.size) (wn rfl) rfl rfl szq11 (fun tb w11 ht st hg11 _ => ?_)
        have hb11 := below_of_grownBy hg11
        have sw11 := hb11.size
        replace hx4 := hx4.below hb11
        replace hT := hT.below hb11
        replace hbB2 := hbB2.trans (hb11.mono hbB2.size)
        have szq12 := hbB2.size
        refine s_appendI (wn rfl) rfl rfl rfl hT.ob ht.il (by simp; omega) szq12 (fun vb' w12 hN so hgN hgrow => ?_)
        replace hbB2 := hbB2.trans (hT.ob.below_of hgN szq12)
        have sw12 := hgN.size
        replace hT := hT.app2 hN hgN hgrow
        clear hN hgrow
        replace hx4 := hx4_b2.below hbB2
        refine go ?_
        exact ⟨vb', _, rfl, rfl, rfl, rfl, rfl, rfl, rfl, rfl, rfl, hT, by simp [lY], fun x hx => by
          rcases List.mem_append.1 hx with hx | hx
          · exact rY x hx
          · simp at hx; subst hx; omega, hbB2⟩
    rintro r w13 ⟨vb', Y2, g4, g5, g6, g7, g8, g9, g10, g11, g12, hT, lY2, rY2, hbB2⟩
    have sw13 := hbB2.size
    replace hx4 := hx4_b2.below hbB2
    refine know (t := 4) g4 ?_; refine know (t := 5) g5 ?_; refine know (t := 6) g6 ?_; refine know (t := 7) g7 ?_; refine know (t := 8) g8 ?_; refine know (t := 9) g9 ?_; refine know (t := 10) g10 ?_; refine know (t := 11) g11 ?_; refine know (t := 12) g12 ?_
    refine w_seq ?_
    refine meet (fun r w' => ∃ (x' : Int), r 4 = .pointer (some p4) ∧ r 5 = .int .i64 2 ∧ r 6 = .int .i64 1 ∧ r 7 = va' ∧ r 8 = vb' ∧ r 9 = vc ∧ r 10 = .int .i64 i ∧ r 11 = .int .i64 (x') ∧ r 12 = .int .i64 ((i : Int) % 8) ∧ Tri w' w2.heap.size 2 va' vb' vc X2 Y2 Z ∧ (0 ≤ x' ∧ x' < 2) ∧ Below w2.heap.size w2 w') ?_ ?_
    · refine go ?_
      refine cond_dec rfl (fun e0 => ?_) (fun e0 => ?_)
      · refine go ?_
        exact ⟨_, rfl, rfl, rfl, rfl, rfl, rfl, rfl, rfl, rfl, hT, ⟨by omega, by omega⟩, hbB2⟩
      refine go ?_
      refine cond_dec rfl (fun e1 => ?_) (fun e1 => ?_)
      · refine go ?_
        exact ⟨_, rfl, rfl, rfl, rfl, rfl, rfl, rfl, rfl, rfl, hT, ⟨by omega, by omega⟩, hbB2⟩
      refine go ?_
      refine cond_dec rfl (fun e2 => ?_) (fun e2 => ?_)
      · refine go ?_
        exact ⟨_, rfl, rfl, rfl, rfl, rfl, rfl, rfl, rfl, rfl, hT, ⟨by omega, by omega⟩, hbB2⟩
      refine go ?_
      refine cond_dec rfl (fun e3 => ?_) (fun e3 => ?_)
      · refine go ?_
        exact ⟨_, rfl, rfl, rfl, rfl, rfl, rfl, rfl, rfl, rfl, hT, ⟨by omega, by omega⟩, hbB2⟩
      refine go ?_
      refine go ?_
      exact ⟨_, rfl, rfl, rfl, rfl, rfl, rfl, rfl, rfl, rfl, hT, ⟨by omega, by omega⟩, hbB2⟩
    rintro r w14 ⟨x', g4, g5, g6, g7, g8, g9, g10, g11, g12, hT, x2, hbB2⟩
    have sw14 := hbB2.size
    replace hx4 := hx4_b2.below hbB2
    refine know (t := 4) g4 ?_; refine know (t := 5) g5 ?_; refine know (t := 6) g6 ?_; refine know (t := 7) g7 ?_; refine know (t := 8) g8 ?_; refine know (t := 9) g9 ?_; refine know (t := 10) g10 ?_; refine know (t := 11) g11 ?_; refine know (t := 12) g12 ?_
    refine go ?_
    refine s_p (wn rfl) rfl (y_mul rfl rfl (by omega)) ?_
    refine go ?_
    refine s_p (wn rfl) rfl (y_xor1 rfl (by omega)) ?_
    refine go ?_
    have hxr : 0 ≤ (if ((i : Int) % 8 + 4) % 8 % 2 = 0 then ((i : Int) % 8 + 4) % 8 + 1 else ((i : Int) % 8 + 4) % 8 - 1) ∧ (if ((i : Int) % 8 + 4) % 8 % 2 = 0 then ((i : Int) % 8 + 4) % 8 + 1 else ((i : Int) % 8 + 4) % 8 - 1) ≤ 7 := by split <;> omega
    generalize (if ((i : Int) % 8 + 4) % 8 % 2 = 0 then ((i : Int) % 8 + 4) % 8 + 1 else ((i : Int) % 8 + 4) % 8 - 1) = z at *
    refine go ?_
    have szq15 := hbB2.size
    refine s_build1 (B := w2.heap.size) (wn rfl) rfl rfl szq15 (fun tb w15 ht st hg15 _ => ?_)
    have hb15 := below_of_grownBy hg15
    have sw15 := hb15.size
    replace hx4 := hx4.below hb15
    replace hT := hT.below hb15
    replace hbB2 := hbB2.trans (hb15.mono hbB2.size)
    have szq16 := hbB2.size
    refine s_appendI (wn rfl) rfl rfl rfl hT.oc ht.il (by simp; omega) szq16 (fun vc' w16 hN so hgN hgrow => ?_)
    replace hbB2 := hbB2.trans (hT.oc.below_of hgN szq16)
    have sw16 := hgN.size
    replace hT := hT.app3 hN hgN hgrow
    clear hN hgrow
    replace hx4 := hx4_b2.below hbB2
    refine go ?_
    refine ⟨16 - (i + 1), by omega, i + 1, va', vb', vc', _, _, _, rfl, by omega, rfl, rfl, rfl, rfl, rfl, rfl, rfl, hT, lX', lY2, by simp [lZ], rX', rY2, fun x hx => by
      rcases List.mem_append.1 hx with hx | hx
      · exact rZ x hx
      · simp at hx; subst hx; omega, hbB2⟩
  obtain rfl : i = 16 := by omega
  have s1 := hT.oa.sv
  have s2 := hT.ob.sv
  have s3 := hT.oc.sv
  refine go ?_
  have szq17 := hbB2.size
  refine Go.Mem.s_build3V (B := w2.heap.size) (wn rfl) rfl rfl rfl rfl s1.one s2.one s3.one szq17 (fun mb w17 hm sm hg17 _ => ?_)
  have hb17 := below_of_grownBy hg17
  have sw17 := hb17.size
  replace hx4 := hx4.below hb17
  replace hT := hT.below hb17
  replace hbB2 := hbB2.trans (hb17.mono hbB2.size)
  have hx := hT.om hm
  have hsys := Syst.three lX lY lZ rX rY rZ
  refine go ?_
  refine s_p (wn rfl) rfl (y_bld1 rfl sm.one) ?_
  have hbY := ((hb.trans (hbB1.mono hb.size)).trans (hbB2.mono (hb.trans (hbB1.mono hb.size)).size))
  refine go ?_
  refine s_storeBox (wn rfl) rfl rfl sm.one hx4 (fun w18 hxz hgz => ?_)
  have hbz := hbY.trans (hx4.below_of hgz hbY.size)
  have hxN := hx.kept hgz (by omega)
  refine go ?_
  exact end_cell Try.results168 rfl hxz.cell ⟨mb, _, rfl, (hxN.mono (by omega)).top, rfl, hsys, hbz⟩

set_option maxHeartbeats 8000000 in
set_option maxRecDepth 100000 in
theorem l06Turned_2  (a : Int) (b : Int) (w : World)  (ea : a = 2) (eb : b = 1) :
    Ret Try.prog 168 #[.int .i64 a, .int .i64 b] w fun r w' => ∃ x xss, r = .agg #[x] ∧ OM w' w.heap.size w'.heap.size 40 2 x xss ∧ xss.length = 3 ∧ Syst 40 xss ∧ Below w.heap.size w w' := by
  have hb := Below.refl w.heap.size w
  refine enter2 130 Try.func168 rfl Try.ntmps168 rfl (fun fr => ?_)
  subst ea eb
  have sz0 := hb.size
  refine go ?_
  refine s_alloc (B := w.heap.size) (wn rfl) rfl (by first | exact Nat.le_refl _ | omega) (fun w1 p4 hx4 hg1 hpp4 => ?_)
  have hb1 := below_of_grownBy hg1
  have sw1 := hb1.size
  replace hb := hb.trans (hb1.mono hb.size)
  have hlt_hx4 := hx4.lt
  have sz1 := hb.size
  refine go ?_
  refine s_p (wn rfl) rfl (y_mul rfl rfl (by omega)) ?_
  refine go ?_
  refine s_p (wn rfl) rfl (y_mul rfl rfl (by omega)) ?_
  refine go ?_
  have sbs1 := hb.size
  have hx4_b1 := hx4
  have hbB1 := Below.refl w1.heap.size w1
  refine go ?_
  refine w_loop (fun kk fr w' => ∃ (i : Nat), kk = 3 - i ∧ i ≤ 3 ∧ fr 0 = .int .i64 2 ∧ fr 1 = .int .i64 1 ∧ fr 4 = .pointer (some p4) ∧ fr 5 = .int .i64 5 ∧ fr 6 = .int .i64 i ∧ Below w1.heap.size w1 w') (3)
    ⟨0, rfl, Nat.zero_le _, rfl, rfl, rfl, rfl, rfl, hbB1⟩ ?_
  rintro kk fr w2 ⟨i, rfl, hi, f0, f1, f4, f5, f6, hbB1⟩
  have sw2 := hbB1.size
  have hx4 := hx4_b1.below hbB1
  refine know (t := 0) f0 ?_; refine know (t := 1) f1 ?_; refine know (t := 4) f4 ?_; refine know (t := 5) f5 ?_; refine know (t := 6) f6 ?_
  refine go ?_
  refine s_p (wn rfl) rfl (y_mul rfl rfl (by omega)) ?_
  refine go ?_
  by_cases hR : i = 3
  rotate_left
  · have k1 : (2 + (i : Int) * 1) % 5 ≠ 0 := by omega
    refine go ?_
    refine ⟨3 - (i + 1), by omega, i + 1, rfl, by omega, rfl, rfl, rfl, rfl, rfl, hbB1⟩
  subst hR
  have k1 : ¬ ((2 + ((3 : Nat) : Int) * 1) % 5 ≠ 0) := by omega
  have k2 : ¬ (((((3 : Nat) : Int) * 2 - 1) % 5 + 5) % 5 ≠ 0) := by omega
  refine go ?_
  refine s_p (wy rfl rfl rfl rfl rfl known) rfl (y_mul rfl rfl (by omega)) ?_
  refine go ?_
  have sbs2 := hbB1.size
  have hx4_b2 := hx4
  have hbB2 := Below.refl w2.heap.size w2
  have szq3 := hbB2.size
  refine s_build0 (B := w2.heap.size) (wn rfl) rfl szq3 (fun za w3 hza so3 hg3 hk0 => ?_)
  have hb3 := below_of_grownBy hg3
  have hlt0 := fun g hg => (hza.lt g hg).2
  have sw3 := hb3.size
  replace hx4 := hx4.below hb3
  replace hbB2 := hbB2.trans (hb3.mono hbB2.size)
  refine go ?_
  have szq4 := hbB2.size
  refine s_build0 (B := w2.heap.size) (wn rfl) rfl szq4 (fun zb w4 hzb so4 hg4 hk1 => ?_)
  have hb4 := below_of_grownBy hg4
  have hlt1 := fun g hg => (hzb.lt g hg).2
  have sw4 := hb4.size
  replace hx4 := hx4.below hb4
  replace hza := hza.below hb4
  replace hbB2 := hbB2.trans (hb4.mono hbB2.size)
  refine go ?_
  have szq5 := hbB2.size
  refine s_build0 (B := w2.heap.size) (wn rfl) rfl szq5 (fun zc w5 hzc so5 hg5 hk2 => ?_)
  have hb5 := below_of_grownBy hg5
  have hlt2 := fun g hg => (hzc.lt g hg).2
  have sw5 := hb5.size
  replace hx4 := hx4.below hb5
  replace hza := hza.below hb5
  replace hzb := hzb.below hb5
  replace hbB2 := hbB2.trans (hb5.mono hbB2.size)
  refine go ?_
  have hT : Tri w5 w2.heap.size 2 za zb zc [] [] [] := ⟨hza, hzb, hzc, Ap.new hlt0 hk1, Ap.new (fun g hg => by have := hlt0 g hg; omega) hk2, Ap.new hlt1 hk2⟩
  refine go ?_
  refine w_loop (fun kk fr w' => ∃ (i : Nat) (va : Value) (vb : Value) (vc : Value) (X : List Int) (Y : List Int) (Z : List Int), kk = 40 - i ∧ i ≤ 40 ∧ fr 4 = .pointer (some p4) ∧ fr 5 = .int .i64 5 ∧ fr 6 = .int .i64 3 ∧ fr 7 = va ∧ fr 8 = vb ∧ fr 9 = vc ∧ fr 10 = .int .i64 i ∧ (Tri w' w2.heap.size 2 va vb vc X Y Z) ∧ (X.length = i) ∧ (Y.length = i) ∧ (Z.length = i) ∧ (∀ x ∈ X, 0 ≤ x ∧ x < ((40 : Nat) : Int)) ∧ (∀ x ∈ Y, 0 ≤ x ∧ x < ((40 : Nat) : Int)) ∧ (∀ x ∈ Z, 0 ≤ x ∧ x < ((40 : Nat) : Int)) ∧ Below w2.heap.size w2 w') (40)
    ⟨0, za, zb, zc, [], [], [], rfl, Nat.zero_le _, rfl, rfl, rfl, rfl, rfl, rfl, rfl, hT, rfl, rfl, rfl, by simp, by simp, by simp, hbB2⟩ ?_
  rintro kk fr w6 ⟨i, va, vb, vc, X, Y, Z, rfl, hi, f4, f5, f6, f7, f8, f9, f10, hT, lX, lY, lZ, rX, rY, rZ, hbB2⟩
  have sw6 := hbB2.size
  have hx4 := hx4_b2.below hbB2
  refine know (t := 4) f4 ?_; refine know (t := 5) f5 ?_; refine know (t := 6) f6 ?_; refine know (t := 7) f7 ?_; refine know (t := 8) f8 ?_; refine know (t := 9) f9 ?_; refine know (t := 10) f10 ?_
  refine go ?_
  refine s_p (wn rfl) rfl (y_mul rfl rfl (by omega)) ?_
  refine go ?_
  refine cond_dec rfl (fun hlt => ?_) (fun hge => ?_)
  · refine go ?_
    refine s_p (wn rfl) rfl (y_xor1 rfl (by omega)) ?_
    refine go ?_
    have szq7 := hbB2.size
    refine s_build1 (B := w2.heap.size) (wn rfl) rfl rfl szq7 (fun tb w7 ht st hg7 _ => ?_)
    have hb7 := below_of_grownBy hg7
    have sw7 := hb7.size
    replace hx4 := hx4.below hb7
    replace hT := hT.below hb7
    replace hbB2 := hbB2.trans (hb7.mono hbB2.size)
    have szq8 := hbB2.size
    refine s_appendI (wn rfl) rfl rfl rfl hT.oa ht.il (by simp; omega) szq8 (fun va' w8 hN so hgN hgrow => ?_)
    replace hbB2 := hbB2.trans (hT.oa.below_of hgN szq8)
    have sw8 := hgN.size
    replace hT := hT.app1 hN hgN hgrow
    clear hN hgrow
    replace hx4 := hx4_b2.below hbB2
    have lX' : (X ++ [(if (i : Int) % 2 = 0 then (i : Int) + 1 else (i : Int) - 1)]).length = i + 1 := by simp [lX]
    have rX' : ∀ x ∈ X ++ [(if (i : Int) % 2 = 0 then (i : Int) + 1 else (i : Int) - 1)], 0 ≤ x ∧ x < ((40 : Nat) : Int) := fun x hx => by
      rcases List.mem_append.1 hx with hx | hx
      · exact rX x hx
      · simp at hx; subst hx; split <;> omega
    generalize X ++ [(if (i : Int) % 2 = 0 then (i : Int) + 1 else (i : Int) - 1)] = X2 at *
    refine go ?_
    refine meet (fun r w' => ∃ (vb' : Value) (Y2 : List Int), r 4 = .pointer (some p4) ∧ r 5 = .int .i64 5 ∧ r 6 = .int .i64 3 ∧ r 7 = va' ∧ r 8 = vb' ∧ r 9 = vc ∧ r 10 = .int .i64 i ∧ r 11 = .int .i64 ((i : Int) / 8) ∧ r 12 = .int .i64 ((i : Int) % 8) ∧ Tri w' w2.heap.size 2 va' vb' vc X2 Y2 Z ∧ Y2.length = i + 1 ∧ (∀ x ∈ Y2, 0 ≤ x ∧ x < ((40 : Nat) : Int)) ∧ Below w2.heap.size w2 w') ?_ ?_
    · refine go ?_
      refine cond_dec rfl (fun hev => ?_) (fun hev => ?_)
      · refine go ?_
        refine s_p (wn rfl) rfl (y_mul rfl rfl (by omega)) ?_
        refine go ?_
        have szq9 := hbB2.size
        refine s_build1 (B := w2.heap.size) (wn rfl) rfl rfl szq9 (fun tb w9 ht st hg9 _ => ?_)
        have hb9 := below_of_grownBy hg9
        have sw9 := hb9.size
        replace hx4 := hx4.below hb9
        replace hT := hT.below hb9
        replace hbB2 := hbB2.trans (hb9.mono hbB2.size)
        have szq10 := hbB2.size
        refine s_appendI (wn rfl) rfl rfl rfl hT.ob ht.il (by simp; omega) szq10 (fun vb' w10 hN so hgN hgrow => ?_)
        replace hbB2 := hbB2.trans (hT.ob.below_of hgN szq10)
        have sw10 := hgN.size
        replace hT := hT.app2 hN hgN hgrow
        clear hN hgrow
        replace hx4 := hx4_b2.below hbB2
        refine go ?_
        exact ⟨vb', _, rfl, rfl, rfl, rfl, rfl, rfl, rfl, rfl, rfl, hT, by simp [lY], fun x hx => by
          rcases List.mem_append.1 hx with hx | hx
          · exact rY x hx
          · simp at hx; subst hx; omega, hbB2⟩
      · refine go ?_
        refine s_p (wn rfl) rfl (y_mul rfl rfl (by omega)) ?_
        refine go ?_
        have szq11 := hbB2.size
        refine s_build1 (B := w2.heap.size) (wn rfl) rfl rfl szq11 (fun tb w11 ht st hg11 _ => ?_)
        have hb11 := below_of_grownBy hg11
        have sw11 := hb11.size
        replace hx4 := hx4.below hb11
        replace hT := hT.below hb11
        replace hbB2 := hbB2.trans (hb11.mono hbB2.size)
        have szq12 := hbB2.size
        refine s_appendI (wn rfl) rfl rfl rfl hT.ob ht.il (by simp; omega) szq12 (fun vb' w12 hN so hgN hgrow => ?_)
        replace hbB2 := hbB2.trans (hT.ob.below_of hgN szq12)
        have sw12 := hgN.size
        replace hT := hT.app2 hN hgN hgrow
        clear hN hgrow
        replace hx4 := hx4_b2.below hbB2
        refine go ?_
        exact ⟨vb', _, rfl, rfl, rfl, rfl, rfl, rfl, rfl, rfl, rfl, hT, by simp [lY], fun x hx => by
          rcases List.mem_append.1 hx with hx | hx
          · exact rY x hx
          · simp at hx; subst hx; omega, hbB2⟩
    rintro r w13 ⟨vb', Y2, g4, g5, g6, g7, g8, g9, g10, g11, g12, hT, lY2, rY2, hbB2⟩
    have sw13 := hbB2.size
    replace hx4 := hx4_b2.below hbB2
    refine know (t := 4) g4 ?_; refine know (t := 5) g5 ?_; refine know (t := 6) g6 ?_; refine know (t := 7) g7 ?_; refine know (t := 8) g8 ?_; refine know (t := 9) g9 ?_; refine know (t := 10) g10 ?_; refine know (t := 11) g11 ?_; refine know (t := 12) g12 ?_
    refine w_seq ?_
    refine meet (fun r w' => ∃ (x' : Int), r 4 = .pointer (some p4) ∧ r 5 = .int .i64 5 ∧ r 6 = .int .i64 3 ∧ r 7 = va' ∧ r 8 = vb' ∧ r 9 = vc ∧ r 10 = .int .i64 i ∧ r 11 = .int .i64 (x') ∧ r 12 = .int .i64 ((i : Int) % 8) ∧ Tri w' w2.heap.size 2 va' vb' vc X2 Y2 Z ∧ (0 ≤ x' ∧ x' < 5) ∧ Below w2.heap.size w2 w') ?_ ?_
    · refine go ?_
      refine cond_dec rfl (fun e0 => ?_) (fun e0 => ?_)
      · refine go ?_
        exact ⟨_, rfl, rfl, rfl, rfl, rfl, rfl, rfl, rfl, rfl, hT, ⟨by omega, by omega⟩, hbB2⟩
      refine go ?_
      refine cond_dec rfl (fun e1 => ?_) (fun e1 => ?_)
      · refine go ?_
        exact ⟨_, rfl, rfl, rfl, rfl, rfl, rfl, rfl, rfl, rfl, hT, ⟨by omega, by omega⟩, hbB2⟩
      refine go ?_
      refine cond_dec rfl (fun e2 => ?_) (fun e2 => ?_)
      · refine go ?_
        exact ⟨_, rfl, rfl, rfl, rfl, rfl, rfl, rfl, rfl, rfl, hT, ⟨by omega, by omega⟩, hbB2⟩
      refine go ?_
      refine cond_dec rfl (fun e3 => ?_) (fun e3 => ?_)
      · refine go ?_
        exact ⟨_, rfl, rfl, rfl, rfl, rfl, rfl, rfl, rfl, rfl, hT, ⟨by omega, by omega⟩, hbB2⟩
      refine go ?_
      refine go ?_
      exact ⟨_, rfl, rfl, rfl, rfl, rfl, rfl, rfl, rfl, rfl, hT, ⟨by omega, by omega⟩, hbB2⟩
    rintro r w14 ⟨x', g4, g5, g6, g7, g8, g9, g10, g11, g12, hT, x2, hbB2⟩
    have sw14 := hbB2.size
    replace hx4 := hx4_b2.below hbB2
    refine know (t := 4) g4 ?_; refine know (t := 5) g5 ?_; refine know (t := 6) g6 ?_; refine know (t := 7) g7 ?_; refine know (t := 8) g8 ?_; refine know (t := 9) g9 ?_; refine know (t := 10) g10 ?_; refine know (t := 11) g11 ?_; refine know (t := 12) g12 ?_
    refine go ?_
    refine s_p (wn rfl) rfl (y_mul rfl rfl (by omega)) ?_
    refine go ?_
    refine s_p (wn rfl) rfl (y_xor1 rfl (by omega)) ?_
    refine go ?_
    have hxr : 0 ≤ (if ((i : Int) % 8 + 4) % 8 % 2 = 0 then ((i : Int) % 8 + 4) % 8 + 1 else ((i : Int) % 8 + 4) % 8 - 1) ∧ (if ((i : Int) % 8 + 4) % 8 % 2 = 0 then ((i : Int) % 8 + 4) % 8 + 1 else ((i : Int) % 8 + 4) % 8 - 1) ≤ 7 := by split <;> omega
    generalize (if ((i : Int) % 8 + 4) % 8 % 2 = 0 then ((i : Int) % 8 + 4) % 8 + 1 else ((i : Int) % 8 + 4) % 8 - 1) = z at *
    refine go ?_
    have szq15 := hbB2.size
    refine s_build1 (B := w2.heap.size) (wn rfl) rfl rfl szq15 (fun tb w15 ht st hg15 _ => ?_)
    have hb15 := below_of_grownBy hg15
    have sw15 := hb15.size
    replace hx4 := hx4.below hb15
    replace hT := hT.below hb15
    replace hbB2 := hbB2.trans (hb15.mono hbB2.size)
    have szq16 := hbB2.size
    refine s_appendI (wn rfl) rfl rfl rfl hT.oc ht.il (by simp; omega) szq16 (fun vc' w16 hN so hgN hgrow => ?_)
    replace hbB2 := hbB2.trans (hT.oc.below_of hgN szq16)
    have sw16 := hgN.size
    replace hT := hT.app3 hN hgN hgrow
    clear hN hgrow
    replace hx4 := hx4_b2.below hbB2
    refine go ?_
    refine ⟨40 - (i + 1), by omega, i + 1, va', vb', vc', _, _, _, rfl, by omega, rfl, rfl, rfl, rfl, rfl, rfl, rfl, hT, lX', lY2, by simp [lZ], rX', rY2, fun x hx => by
      rcases List.mem_append.1 hx with hx | hx
      · exact rZ x hx
      · simp at hx; subst hx; omega, hbB2⟩
  obtain rfl : i = 40 := by omega
  have s1 := hT.oa.sv
  have s2 := hT.ob.sv
  have s3 := hT.oc.sv
  refine go ?_
  have szq17 := hbB2.size
  refine Go.Mem.s_build3V (B := w2.heap.size) (wn rfl) rfl rfl rfl rfl s1.one s2.one s3.one szq17 (fun mb w17 hm sm hg17 _ => ?_)
  have hb17 := below_of_grownBy hg17
  have sw17 := hb17.size
  replace hx4 := hx4.below hb17
  replace hT := hT.below hb17
  replace hbB2 := hbB2.trans (hb17.mono hbB2.size)
  have hx := hT.om hm
  have hsys := Syst.three lX lY lZ rX rY rZ
  refine go ?_
  refine s_p (wn rfl) rfl (y_bld1 rfl sm.one) ?_
  have hbY := ((hb.trans (hbB1.mono hb.size)).trans (hbB2.mono (hb.trans (hbB1.mono hb.size)).size))
  refine go ?_
  refine s_storeBox (wn rfl) rfl rfl sm.one hx4 (fun w18 hxz hgz => ?_)
  have hbz := hbY.trans (hx4.below_of hgz hbY.size)
  have hxN := hx.kept hgz (by omega)
  refine go ?_
  exact end_cell Try.results168 rfl hxz.cell ⟨mb, _, rfl, (hxN.mono (by omega)).top, rfl, hsys, hbz⟩

end Go.Proofs.Ytlodnhflfijomaa
