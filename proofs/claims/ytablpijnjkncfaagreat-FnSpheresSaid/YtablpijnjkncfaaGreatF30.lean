/- Contracts: the flags that moves lead to from one, in order. -/
import Derived.Test.YtablpijnjkncfaaGreatFE
import Derived.Test.YtablpijnjkncfaaGreatPD
import Derived.Test.YtablpijnjkncfaaGreatWC
namespace Go.Proofs.YtablpijnjkncfaaGreat
open Go.Mem Go.RowKit
set_option linter.unusedVariables false

set_option maxRecDepth 100000 in
set_option maxHeartbeats 8000000 in
theorem numberedFrom_any (v : Value) (xss : List (List Int)) (n : Nat) (p : Int) (w : World) (hv : RL w v xss) (hsys : Syst n xss) (hp : 0 ≤ p ∧ p < n) (h1 : 1 ≤ xss.length) (hN : n ≤ 1000) (hM : xss.length ≤ 1000) :
    Ret Tryz.prog 120 #[v, .int .i64 p] w fun r w' => OI w' w.heap.size 2 r (orbit xss p) ∧ Below w.heap.size w w' := by
  have sv := hv.sv
  have hrow0 := (hsys.row (j := 0) (by omega) (by omega)).1
  refine enter2 54 Tryz.func120 rfl Tryz.ntmps120 rfl (fun fr => ?_)
  refine go ?_
  refine s_ldR (wn rfl) rfl rfl hv (by omega) (by omega) (fun u hu su => ?_)
  refine go ?_
  refine s_makeB (B := w.heap.size) (wn rfl) rfl rfl rfl (by omega) (by omega) (Nat.le_refl _) (fun sb w2 hsb ssb hg2 hb2 => ?_)
  refine go ?_
  refine s_storeB (wn rfl) rfl rfl hsb (by omega) (by simp; omega) (fun w3 hsb3 hg3 => ?_)
  have h2 := hg2.size
  have hb23 := (below_of_grownBy hg2).trans (hsb.below_of hg3 (by omega))
  have h3 := hb23.size
  refine go ?_
  refine s_build1 (B := w.heap.size) (wn rfl) rfl rfl h3 (fun ob w4 ho so hg4 hb4 => ?_)
  have hb4' := below_of_grownBy hg4
  have hsb4 := hsb3.below hb4'
  have hbel := hb23.trans (hb4'.mono h3)
  refine go ?_
  refine w_loop (fun kk fr w' => ∃ (i : Nat) (ob : Value) (seen : List Bool), kk = n - i ∧ i ≤ (bfs xss p i).length ∧ fr 0 = v ∧ fr 5 = sb ∧ fr 6 = ob ∧ fr 7 = .int .i64 i ∧
      OI w' w.heap.size 2 ob (bfs xss p i) ∧ OB w' w.heap.size 4 sb seen ∧ Orb n seen (bfs xss p i) ∧ Below w.heap.size w w') n
    ⟨0, ob, _, rfl, Nat.zero_le _, rfl, rfl, rfl, rfl, ho, hsb4, Orb.start hp (by omega), hbel⟩ ?_
  rintro kk fr w5 ⟨i, ob, seen, rfl, hi, f0, f5, f6, f7, ho, hs, horb, hbel⟩
  have so := ho.sv
  have hle := horb.le
  refine know (t := 0) f0 ?_; refine know (t := 5) f5 ?_; refine know (t := 6) f6 ?_; refine know (t := 7) f7 ?_
  refine go ?_
  refine cond_dec rfl (fun hlt => ?_) (fun hge => ?_)
  · refine go ?_
    have hx : 0 ≤ gi (bfs xss p i) i ∧ gi (bfs xss p i) i < n := horb.rng _ (gi_mem (by omega) hlt)
    refine w_loop (fun kk fr w' => ∃ (j : Nat) (ob : Value) (seen : List Bool) (o : List Int), kk = xss.length - j ∧ j ≤ xss.length ∧ fr 0 = v ∧ fr 5 = sb ∧ fr 6 = ob ∧ fr 7 = .int .i64 i ∧ fr 27 = v ∧ fr 28 = .int .i64 xss.length ∧ fr 29 = .int .i64 j ∧
        o = visits (bfs xss p i) ((images xss (gi (bfs xss p i) i)).take j) ∧ OI w' w.heap.size 2 ob o ∧ OB w' w.heap.size 4 sb seen ∧ Orb n seen o ∧ Below w.heap.size w w') xss.length
      ⟨0, ob, seen, _, rfl, Nat.zero_le _, rfl, rfl, rfl, rfl, rfl, rfl, rfl, by simp [visits], ho, hs, horb, hbel⟩ ?_
    rintro kk fr w6 ⟨j, ob, seen, o, rfl, hj, f0, f5, f6, f7, f27, f28, f29, hoe, ho, hs, horb, hbel⟩
    have so := ho.sv
    have ss := hs.sv
    have hle := horb.le
    have hv6 := hv.below hbel
    have hol : (bfs xss p i).length ≤ o.length := by rw [hoe]; exact length_visits _ _
    have hgo : gi o i = gi (bfs xss p i) i := by rw [hoe]; exact gi_visits (by omega) hlt
    refine know (t := 0) f0 ?_; refine know (t := 5) f5 ?_; refine know (t := 6) f6 ?_; refine know (t := 7) f7 ?_; refine know (t := 27) f27 ?_; refine know (t := 28) f28 ?_; refine know (t := 29) f29 ?_
    refine go ?_
    refine cond_dec rfl (fun hlt2 => ?_) (fun hge2 => ?_)
    · obtain ⟨u, hu, hcell⟩ := hv6.row (j := j) (by omega) hlt2
      have su := hu.sv
      have hrow := hsys.row (j := j) (by omega) hlt2
      have hrl := hrow.1
      have hx' : 0 ≤ gi o i ∧ gi o i < n := by rw [hgo]; exact hx
      have hy := hsys.at (j := j) (x := gi o i) (by omega) hlt2 hx'
      have hsl := horb.len
      refine go ?_
      have hstep : visits (bfs xss p i) ((images xss (gi (bfs xss p i) i)).take (j + 1)) = visit o (gi (gr xss j) (gi o i)) := by
        rw [visits_take_succ (by rw [length_images]; omega), gi_images (by omega), ← hoe, hgo]
      refine cond_split rfl (fun hn => ?_) (fun hn => ?_)
      · have hn : gb seen (gi (gr xss j) (gi o i)) = false := by simpa using hn
        obtain ⟨hv1, horb'⟩ := horb.miss hy hn
        refine go ?_
        refine s_storeB (wn rfl) rfl rfl hs (by omega) (by omega) (fun w7 hs7 hg7 => ?_)
        have ho7 := ho.kept hg7 (ho.apart_OB hs (by decide))
        have hb7 := hbel.trans (hs.below_of hg7 hbel.size)
        refine go ?_
        refine s_build1 (B := w.heap.size) (wn rfl) rfl rfl hb7.size (fun tb w8 ht st hg8 _ => ?_)
        have hb8 := below_of_grownBy hg8
        have ho8 := ho7.below hb8
        have hs8 := hs7.below hb8
        have hbel8 := hb7.trans (hb8.mono hb7.size)
        refine s_appendI (wn rfl) rfl rfl rfl ho8 ht.il (by simp; omega) hbel8.size (fun ob' w9 ho9 so9 hg9 _ => ?_)
        have hs9 := hs8.kept hg9 (hs8.apart_OI ho8 (by decide))
        have hbel9 := hbel8.trans (ho8.below_of hg9 hbel8.size)
        refine go ?_
        exact ⟨xss.length - (j + 1), by omega, j + 1, ob', _, _, rfl, by omega, rfl, rfl, rfl, rfl, rfl, rfl, rfl, by rw [hstep, hv1], ho9, hs9, horb', hbel9⟩
      · have hn : gb seen (gi (gr xss j) (gi o i)) = true := by simpa using hn
        refine go ?_
        exact ⟨xss.length - (j + 1), by omega, j + 1, ob, _, o, rfl, by omega, rfl, rfl, rfl, rfl, rfl, rfl, rfl, by rw [hstep, horb.hit hy hn], ho, hs, horb, hbel⟩
    · refine go ?_
      have hbs : o = bfs xss p (i + 1) := by
        rw [hoe, visits_take_all (by rw [length_images]; omega), bfs_succ (by omega)]
      subst hbs
      exact ⟨n - (i + 1), by omega, i + 1, ob, seen, rfl, by omega, rfl, rfl, rfl, rfl, ho, hs, horb, hbel⟩
  · refine go ?_
    exact end_one Tryz.results120 rfl ⟨by rw [orbit_eq (i := i) (by omega) (by omega)]; exact ho, hbel⟩

set_option maxRecDepth 100000 in
set_option maxHeartbeats 8000000 in
theorem formFrom_any (v : Value) (xss : List (List Int)) (n : Nat) (p : Int) (w : World) (hv : RL w v xss) (hsys : Syst n xss) (hp : 0 ≤ p ∧ p < n) (h1 : 1 ≤ xss.length) (hN : n ≤ 1000) (hM : xss.length ≤ 1000) :
    Ret Tryz.prog 93 #[v, .int .i64 p] w fun r w' => ∃ x, r = .agg #[x] ∧ OM w' w.heap.size w'.heap.size 32 2 x (frm n xss p) ∧ Below w.heap.size w w' := by
  have sv := hv.sv
  have hrow0 := (hsys.row (j := 0) (by omega) (by omega)).1
  have horg := orbit_rng hsys hp hN
  have hole := orbit_le hsys hp hN
  unfold frm
  refine enter2 66 Tryz.func93 rfl Tryz.ntmps93 rfl (fun fr => ?_)
  refine go ?_
  refine s_alloc (B := w.heap.size) (wn rfl) rfl (Nat.le_refl _) (fun w1 p4 hx4 hg1 hp4 => ?_)
  have hb1 := below_of_grownBy hg1
  have hv1 := hv.below hb1
  have z1 := hb1.size
  refine go ?_
  refine s_call2 (wn rfl) rfl rfl rfl (numberedFrom_any _ _ _ _ _ hv1 hsys hp h1 hN hM) ?_
  rintro ob w2 ⟨ho, hb2⟩
  generalize orbit xss p = O at *
  have z2 := hb2.size
  have hv2 := hv1.below hb2
  have hx42 := hx4.below hb2
  have hb12 := hb1.trans (hb2.mono z1)
  refine go ?_
  refine s_ldR (wn rfl) rfl rfl hv2 (by omega) (by omega) (fun u0 hu0 su0 => ?_)
  refine go ?_
  refine s_makeI (B := w2.heap.size) (wn rfl) rfl rfl rfl (by omega) (by omega) (Nat.le_refl _) (fun nb w3 hn sn hg3 _ => ?_)
  have hb3 := below_of_grownBy hg3
  have en : (((gr xss 0).length : Int)).toNat = n := by omega
  rw [en] at hn sn
  have so2 := ho.sv
  refine go ?_
  refine w_loop (fun kk fr w' => ∃ (i : Nat), kk = O.length - i ∧ i ≤ O.length ∧ fr 0 = v ∧ fr 4 = .pointer (some p4) ∧ fr 5 = ob ∧ fr 6 = nb ∧ fr 23 = ob ∧ fr 24 = .int .i64 O.length ∧ fr 25 = .int .i64 i ∧
      OI w' w2.heap.size 2 nb (laidTo n O (fun k : Nat => (k : Int)) i) ∧ Below w2.heap.size w2 w') O.length
    ⟨0, rfl, Nat.zero_le _, rfl, rfl, rfl, rfl, rfl, rfl, rfl, hn, hb3⟩ ?_
  rintro kk fr w4 ⟨i, rfl, hi, f0, f4, f5, f6, f23, f24, f25, hn, hb24⟩
  have z4 := hb24.size
  have sn := hn.sv
  have ho4 := ho.below hb24
  have hll := length_laidTo n O (fun k : Nat => (k : Int)) i
  refine know (t := 0) f0 ?_; refine know (t := 4) f4 ?_; refine know (t := 5) f5 ?_; refine know (t := 6) f6 ?_; refine know (t := 23) f23 ?_; refine know (t := 24) f24 ?_; refine know (t := 25) f25 ?_
  refine go ?_
  refine cond_dec rfl (fun hlt => ?_) (fun hge => ?_)
  · have hx := horg _ (gi_in (xs := O) (j := i) (by omega))
    refine go ?_
    refine s_storeI (wn rfl) rfl rfl hn (by omega) (by omega) (fun w5 hn5 hg5 => ?_)
    have hb5 := hb24.trans (hn.below_of hg5 z4)
    refine go ?_
    exact ⟨O.length - (i + 1), by omega, i + 1, rfl, by omega, rfl, rfl, rfl, rfl, rfl, rfl, rfl, hn5, hb5⟩
  have hie : i = O.length := by omega
  rw [hie] at hn
  have hnum : laidTo n O (fun k : Nat => (k : Int)) O.length = numIn n O := rfl
  rw [hnum] at hn
  have hnl := length_numIn n O
  have sn := hn.sv
  generalize numIn n O = N at *
  have hv4 := hv2.below hb24
  have hx44 := hx42.below hb24
  have hb4 := hb12.trans (hb24.mono (by omega))
  refine go ?_
  refine s_alloc (B := w4.heap.size) (wn rfl) rfl (Nat.le_refl _) (fun w6 p9 hx9 hg6 hp9 => ?_)
  have hb6 := below_of_grownBy hg6
  have z6 := hb6.size
  have hlt9 := hx9.lt
  refine go ?_
  refine w_loop (fun kk fr w' => ∃ (j : Nat) (rb : Value), kk = xss.length - j ∧ j ≤ xss.length ∧ fr 0 = v ∧ fr 4 = .pointer (some p4) ∧ fr 5 = ob ∧ fr 6 = nb ∧ fr 9 = .pointer (some p9) ∧ fr 35 = v ∧ fr 36 = .int .i64 xss.length ∧ fr 37 = .int .i64 j ∧
      Bx w' w4.heap.size p9 26 rb ∧ OM w' w6.heap.size w'.heap.size 32 2 rb ((xss.take j).map fun m => O.map fun x => gi N (gi m x)) ∧ w6.heap.size ≤ w'.heap.size ∧ Below w4.heap.size w4 w') xss.length
    ⟨0, _, rfl, Nat.zero_le _, rfl, rfl, rfl, rfl, rfl, rfl, rfl, rfl, hx9, by simpa using OM.nil _ _ _ _ _, Nat.le_refl _, hb6⟩ ?_
  rintro kk fr w7 ⟨j, rb, rfl, hj, f0, f4, f5, f6, f9, f35, f36, f37, hx9, hr, z7, hb47⟩
  have hv7 := hv4.below hb47
  refine know (t := 0) f0 ?_; refine know (t := 4) f4 ?_; refine know (t := 5) f5 ?_; refine know (t := 6) f6 ?_; refine know (t := 9) f9 ?_; refine know (t := 35) f35 ?_; refine know (t := 36) f36 ?_; refine know (t := 37) f37 ?_
  refine go ?_
  refine cond_dec rfl (fun hlt => ?_) (fun hge => ?_)
  · obtain ⟨u, hu, hcu⟩ := hv7.row (j := (j : Int)) (by omega) hlt
    have su := hu.sv
    have hrl := (hsys.row (j := (j : Int)) (by omega) hlt).1
    have hr := hr.top
    refine go ?_
    refine w_loop (fun kk fr w' => ∃ (q : Nat) (lb : Value), kk = O.length - q ∧ q ≤ O.length ∧ fr 0 = v ∧ fr 4 = .pointer (some p4) ∧ fr 5 = ob ∧ fr 6 = nb ∧ fr 9 = .pointer (some p9) ∧ fr 35 = v ∧ fr 36 = .int .i64 xss.length ∧ fr 37 = .int .i64 j ∧ fr 11 = u ∧ fr 12 = lb ∧ fr 41 = ob ∧ fr 42 = .int .i64 O.length ∧ fr 43 = .int .i64 q ∧
        OI w' w7.heap.size 2 lb ((O.take q).map fun x => gi N (gi (gr xss j) x)) ∧ Below w7.heap.size w7 w') O.length
      ⟨0, _, rfl, Nat.zero_le _, rfl, rfl, rfl, rfl, rfl, rfl, rfl, rfl, rfl, rfl, rfl, rfl, rfl, OI.nil _ _ _, Below.refl _ _⟩ ?_
    rintro kk fr w8 ⟨q, lb, rfl, hq, f0, f4, f5, f6, f9, f35, f36, f37, f11, f12, f41, f42, f43, hl, hb78⟩
    have hb48 := hb47.trans (hb78.mono (by omega))
    have ho8 := (ho.below hb24).below hb48
    have hn8 := hn.below hb48
    have hu8 := hu.below hb78
    have z8 := hb78.size
    have sl := hl.sv
    refine know (t := 0) f0 ?_; refine know (t := 4) f4 ?_; refine know (t := 5) f5 ?_; refine know (t := 6) f6 ?_; refine know (t := 9) f9 ?_; refine know (t := 35) f35 ?_; refine know (t := 36) f36 ?_; refine know (t := 37) f37 ?_; refine know (t := 11) f11 ?_; refine know (t := 12) f12 ?_; refine know (t := 41) f41 ?_; refine know (t := 42) f42 ?_; refine know (t := 43) f43 ?_
    refine go ?_
    refine cond_dec rfl (fun hlt2 => ?_) (fun hge2 => ?_)
    · have hx := horg _ (gi_in (xs := O) (j := q) (by omega))
      have hy := hsys.at (j := (j : Int)) (by omega) hlt hx
      refine go ?_
      refine s_build1 (B := w7.heap.size) (wn rfl) rfl rfl z8 (fun tb wa ht st hga _ => ?_)
      have hba := below_of_grownBy hga
      have hla := hl.below hba
      have hb7a := hb78.trans (hba.mono z8)
      have za := hb7a.size
      refine s_appendI (wn rfl) rfl rfl rfl hla ht.il (by simp; omega) za (fun lb' wb hlb slb hgb _ => ?_)
      have hb7b := hb7a.trans (hla.below_of hgb za)
      refine go ?_
      exact ⟨O.length - (q + 1), by omega, q + 1, lb', rfl, by omega, rfl, rfl, rfl, rfl, rfl, rfl, rfl, rfl, rfl, rfl, rfl, rfl, rfl, by rw [map_take_gi (by omega)]; exact hlb, hb7b⟩
    · obtain rfl : q = O.length := by omega
      rw [List.take_length] at hl
      have hx98 := hx9.below hb78
      have hr8 := hr.below hb78
      have hc9 := hx98.cell
      refine go ?_
      refine s_build1V (B := w6.heap.size) (wn rfl) rfl rfl sl.one (by omega) (fun tb wa ht st hga _ => ?_)
      have hba := below_of_grownBy hga
      have za := hba.size
      have hra := hr8.below hba
      have hla := hl.below hba
      have hx9a := hx98.below hba
      have hb4a := hb48.trans (hba.mono (by omega))
      refine s_appendM (wn rfl) rfl rfl rfl hra ht.rd hla (by omega) (by decide) (by simp; omega) (by omega) (fun rb' wb hrb srb hgb => ?_)
      have zb := hgb.size
      have hx9b := hx9a.kept hgb (by intro e; have := (hra.ownlt _ e).1; omega)
      have hb4b := hb4a.trans ((hra.below_of hgb (by omega)).mono (by omega))
      have hc9b := hx9b.cell
      refine go ?_
      refine s_storeFld (wn rfl) rfl rfl srb.one hx9b (fun wc hx9c hgc => ?_)
      have hrc := hrb.kept hgc (by omega)
      have zc := hgc.size
      have hb4c := hb4b.trans (hx9b.below_of hgc (by omega))
      refine go ?_
      exact ⟨xss.length - (j + 1), by omega, j + 1, rb', rfl, by omega, rfl, rfl, rfl, rfl, rfl, rfl, rfl, rfl, hx9c, by rw [frm_take (by omega)]; exact hrc.top, by omega, hb4c⟩
  · obtain rfl : j = xss.length := by omega
    rw [List.take_length] at hr
    have hc9 := hx9.cell
    have hx47 := hx44.below hb47
    have hlt4 := hx44.lt
    have sr := hr.sv
    refine go ?_
    refine s_storeBox (wn rfl) rfl rfl sr.one hx47 (fun w8 hx48 hg8 => ?_)
    have hr8 := hr.kept hg8 (by omega)
    have hb7 := hb4.trans (hb47.mono (by omega))
    have hb8 := hb7.trans (hx47.below_of hg8 hb7.size)
    refine go ?_
    exact end_cell Tryz.results93 rfl hx48.cell ⟨rb, rfl, (hr8.mono (by omega)).top, hb8⟩
end Go.Proofs.YtablpijnjkncfaaGreat
