/- Contracts: sections (the reference's forms from a flag). -/
import Derived.Test.YtablpijnjkncfaaGreatF31
namespace Go.Proofs.YtablpijnjkncfaaGreat
open Go.Mem Go.RowKit
set_option linter.unusedVariables false

set_option maxRecDepth 100000 in
set_option maxHeartbeats 16000000 in
theorem l04Section_any (v : Value) (ms : List (List Int)) (n : Nat) (p i k : Int) (w : World) (hv : RL w v ms) (hsys : Syst n ms) (hp : 0 ≤ p ∧ p < n) (hi : 0 ≤ i ∧ i ≤ k ∧ k < ms.length) (hN : n ≤ 1000) (hM : ms.length ≤ 1000) :
    Ret Tryz.prog 67 #[.agg #[v], .int .i64 p, .int .i64 i, .int .i64 k] w fun r w' => ∃ x, r = .agg #[x] ∧ OM w' w.heap.size w'.heap.size 32 2 x (frm n ((ms.take (k + 1).toNat).drop i.toNat) p) ∧ Below w.heap.size w w' := by
  have sv := hv.sv
  have hnf : nf ms = n := (hsys.row (j := 0) (by omega) (by omega)).1
  refine enter4 79 Tryz.func67 rfl Tryz.ntmps67 rfl (fun fr => ?_)
  refine go ?_
  refine s_box (wn rfl) rfl rfl (agg_cells sv) (fun w0 hbx _ _ hg0 => ?_)
  have hb0 := below_of_grownBy hg0
  have z0 := hb0.size
  have hv0 := hv.below hb0
  generalize (⟨w.heap.size, 0, none⟩ : Addr) = pb at *
  refine s_alloc (B := w.heap.size) (wn rfl) rfl z0 (fun w1 p4 hx4 hg1 hp4 => ?_)
  have hb01 := below_of_grownBy hg1
  have hv1 := hv0.below hb01
  have hbx1 := cell_below hbx hb01
  have hb1 := hb0.trans (hb01.mono z0)
  have z1 := hb1.size
  have hlt1 := hx4.lt
  obtain ⟨vsr, gr1, gr2, _⟩ := hv1.out
  refine go ?_
  refine s_p (wn rfl) rfl (y_cut rfl rfl rfl gr1 (by omega) (by omega) (by omega)) ?_
  refine go ?_
  have hrl := hv1.cut (l := i.toNat) (r := (k + 1).toNat) (by omega) (by omega)
  have hsys2 : Syst n ((ms.take (k + 1).toNat).drop i.toNat) := fun m hm => hsys m (List.mem_of_mem_take (List.mem_of_mem_drop hm))
  have hlen2 : ((ms.take (k + 1).toNat).drop i.toNat).length = (k + 1).toNat - i.toNat := by simp; omega
  generalize (ms.take (k + 1).toNat).drop i.toNat = xss at *
  generalize cut v i.toNat (k + 1).toNat = cv at *
  have sv2 := hrl.sv
  have horg := orbit_rng hsys2 hp hN
  have hole := orbit_le hsys2 hp hN
  unfold frm
  refine s_call2 (wn rfl) rfl rfl rfl (l01Orbit_any _ _ _ _ _ hrl hsys2 hp hN (by omega)) ?_
  rintro ob w2 ⟨ho, hb2⟩
  generalize orbit xss p = O at *
  have z2 := hb2.size
  have hv2 := hrl.below hb2
  have hvm2 := hv1.below hb2
  have hbx2 := cell_below hbx1 hb2
  have hx42 := hx4.below hb2
  have hb12 := hb1.trans (hb2.mono z1)
  refine go ?_
  refine s_call1 (wn rfl) rfl rfl (l02Flags_any _ _ _ hvm2 (by omega)) ?_
  rintro _ w2b ⟨rfl, hb2b⟩
  rw [hnf]
  have ho := ho.below hb2b
  have hv2 := hv2.below hb2b
  have hx42 := hx42.below hb2b
  have z2b := hb2b.size
  have hb12 := hb12.trans (hb2b.mono hb12.size)
  clear hb2b
  refine go ?_
  refine s_makeI (B := w2b.heap.size) (wn rfl) rfl rfl rfl (by omega) (by omega) (Nat.le_refl _) (fun nb w3 hn sn hg3 _ => ?_)
  have hb3 := below_of_grownBy hg3
  have en : ((n : Int)).toNat = n := by omega
  rw [en] at hn sn
  have so2 := ho.sv
  refine go ?_
  refine w_loop (fun kk fr w' => ∃ (i : Nat), kk = O.length - i ∧ i ≤ O.length ∧ fr 8 = .pointer (some p4) ∧ fr 9 = cv ∧ fr 10 = ob ∧ fr 11 = nb ∧ fr 12 = .int .i64 i ∧
      OI w' w2b.heap.size 2 nb (laidTo n O (fun k : Nat => (k : Int)) i) ∧ Below w2b.heap.size w2b w') O.length
    ⟨0, rfl, Nat.zero_le _, rfl, rfl, rfl, rfl, rfl, hn, hb3⟩ ?_
  rintro kk fr w4 ⟨i, rfl, hi, f8, f9, f10, f11, f12, hn, hb24⟩
  have z4 := hb24.size
  have sn := hn.sv
  have ho4 := ho.below hb24
  have hll := length_laidTo n O (fun k : Nat => (k : Int)) i
  refine know (t := 8) f8 ?_; refine know (t := 9) f9 ?_; refine know (t := 10) f10 ?_; refine know (t := 11) f11 ?_; refine know (t := 12) f12 ?_
  refine go ?_
  refine cond_dec rfl (fun hlt => ?_) (fun hge => ?_)
  · have hx := horg _ (gi_in (xs := O) (j := i) (by omega))
    refine go ?_
    refine s_storeI (wn rfl) rfl rfl hn (by omega) (by omega) (fun w5 hn5 hg5 => ?_)
    have hb5 := hb24.trans (hn.below_of hg5 z4)
    refine go ?_
    exact ⟨O.length - (i + 1), by omega, i + 1, rfl, by omega, rfl, rfl, rfl, rfl, rfl, hn5, hb5⟩
  have hie : i = O.length := by omega
  rw [hie] at hn
  have hnum : laidTo n O (fun k : Nat => (k : Int)) O.length = numIn n O := rfl
  rw [hnum] at hn
  have hnl := length_numIn n O
  have sn := hn.sv
  generalize numIn n O = N at *
  have hv4 := hv2.below hb24
  have hx44 := hx42.below hb24
  have hb4 := hb12.trans (hb24.mono (by omega))
  refine go ?_
  refine s_p (wn rfl) rfl y_bld0 ?_
  refine s_alloc (B := w4.heap.size) (wn rfl) rfl (Nat.le_refl _) (fun w6 p9 hx9 hg6 hp9 => ?_)
  have hb6 := below_of_grownBy hg6
  have z6 := hb6.size
  have hlt9 := hx9.lt
  refine go ?_
  refine s_storeBox (wn rfl) rfl rfl rfl hx9 (fun w6b hx9b hg6b => ?_)
  have hb6 := hb6.trans (hx9.below_of hg6b z6)
  have hx9 := hx9b
  have z6b := hg6b.size
  refine go ?_
  refine w_loop (fun kk fr w' => ∃ (j : Nat) (rb : Value), kk = xss.length - j ∧ j ≤ xss.length ∧ fr 8 = .pointer (some p4) ∧ fr 9 = cv ∧ fr 10 = ob ∧ fr 11 = nb ∧ fr 13 = .pointer (some p9) ∧ fr 14 = .int .i64 j ∧
      Bx w' w4.heap.size p9 26 rb ∧ OM w' w6.heap.size w'.heap.size 32 2 rb ((xss.take j).map fun m => O.map fun x => gi N (gi m x)) ∧ w6.heap.size ≤ w'.heap.size ∧ Below w4.heap.size w4 w') xss.length
    ⟨0, _, rfl, Nat.zero_le _, rfl, rfl, rfl, rfl, rfl, rfl, hx9, OM.nil _ _ _ _ _, z6b, hb6⟩ ?_
  rintro kk fr w7 ⟨j, rb, rfl, hj, f8, f9, f10, f11, f13, f14, hx9, hr, z7, hb47⟩
  have hv7 := hv4.below hb47
  have ho7 := (ho.below hb24).below hb47
  have hn7 := hn.below hb47
  refine know (t := 8) f8 ?_; refine know (t := 9) f9 ?_; refine know (t := 10) f10 ?_; refine know (t := 11) f11 ?_; refine know (t := 13) f13 ?_; refine know (t := 14) f14 ?_
  refine go ?_
  refine cond_dec rfl (fun hlt => ?_) (fun hge => ?_)
  · obtain ⟨u, hu, hcu⟩ := hv7.row (j := (j : Int)) (by omega) hlt
    have su := hu.sv
    have hrl := (hsys2.row (j := (j : Int)) (by omega) hlt).1
    have hr := hr.top
    have z47 := hb47.size
    refine go ?_
    refine s_build0 (B := w7.heap.size) (wn rfl) rfl (Nat.le_refl _) (fun lb0 w7b hl0 sl0 hg7b _ => ?_)
    have hb7b := below_of_grownBy hg7b
    refine go ?_
    refine w_loop (fun kk fr w' => ∃ (q : Nat) (lb : Value), kk = O.length - q ∧ q ≤ O.length ∧ fr 8 = .pointer (some p4) ∧ fr 9 = cv ∧ fr 10 = ob ∧ fr 11 = nb ∧ fr 13 = .pointer (some p9) ∧ fr 14 = .int .i64 j ∧ fr 15 = lb ∧ fr 16 = .int .i64 q ∧
        OI w' w7.heap.size 2 lb ((O.take q).map fun x => gi N (gi (gr xss j) x)) ∧ Below w7.heap.size w7 w') O.length
      ⟨0, _, rfl, Nat.zero_le _, rfl, rfl, rfl, rfl, rfl, rfl, rfl, rfl, hl0, hb7b⟩ ?_
    rintro kk fr w8 ⟨q, lb, rfl, hq, f8, f9, f10, f11, f13, f14, f15, f16, hl, hb78⟩
    have z8 := hb78.size
    refine know (t := 8) f8 ?_; refine know (t := 9) f9 ?_; refine know (t := 10) f10 ?_; refine know (t := 11) f11 ?_; refine know (t := 13) f13 ?_; refine know (t := 14) f14 ?_; refine know (t := 15) f15 ?_; refine know (t := 16) f16 ?_
    refine go ?_
    refine cond_dec rfl (fun hlt2 => ?_) (fun hge2 => ?_)
    · have hx := horg _ (gi_in (xs := O) (j := q) (by omega))
      have hy := hsys2.at (j := (j : Int)) (by omega) hlt hx
      refine go ?_
      refine region_hS (fun w' => Below w7.heap.size w7 w') mixed (fun wr hbr => ?_)
      have hb7r := hb78.trans (hbr.mono z8)
      have zr := hb7r.size
      have hl := hl.below hbr
      refine h_p 0 hb7r ?_
      refine h_p 1 hb7r ?_
      refine h_p 2 hb7r ?_
      refine h_p 3 hb7r ?_
      refine h_p 4 hb7r ?_
      refine h_p 5 hb7r ?_
      refine h_p 6 hb7r ?_
      refine h_p 7 hb7r ?_
      refine h_p 8 hb7r ?_
      refine h_p 9 hb7r ?_
      refine h_p 10 hb7r ?_
      refine h_p 11 hb7r ?_
      refine h_p 12 hb7r ?_
      refine h_p 13 hb7r ?_
      refine h_one 14 ?_
      refine s_build1 (B := w7.heap.size) (wn rfl) rfl rfl zr (fun tb wa ht st hga _ => ?_)
      have hba := below_of_grownBy hga
      have hla := hl.below hba
      have hb7a := hb7r.trans (hba.mono zr)
      have za := hb7a.size
      refine w_nil ?_
      refine h_on ⟨hb7a, ?_⟩
      refine h_one 15 ?_
      refine s_appendI (wn rfl) rfl rfl rfl hla ht.il (by simp; omega) za (fun lb' wb hlb slb hgb _ => ?_)
      have hb7c := hb7a.trans (hla.below_of hgb za)
      refine w_nil ?_
      refine h_on ⟨hb7c, ?_⟩
      refine h_p 16 hb7c ?_
      refine h_nil ?_
      refine go ?_
      exact ⟨O.length - (q + 1), by omega, q + 1, lb', rfl, by omega, rfl, rfl, rfl, rfl, rfl, rfl, rfl, rfl, by rw [map_take_gi (by omega)]; exact hlb, hb7c⟩
    · obtain rfl : q = O.length := by omega
      rw [List.take_length] at hl
      have hx98 := hx9.below hb78
      have hr8 := hr.below hb78
      have hc9 := hx98.cell
      have sl := hl.sv
      have hb48 := hb47.trans (hb78.mono (by omega))
      refine go ?_
      refine s_build1V (B := w6.heap.size) (wn rfl) rfl rfl sl.one (by omega) (fun tb wa ht st hga _ => ?_)
      have hba := below_of_grownBy hga
      have za := hba.size
      have hra := hr8.below hba
      have hla := hl.below hba
      have hx9a := hx98.below hba
      have hb4a := hb48.trans (hba.mono (by omega))
      refine s_appendM (wn rfl) rfl rfl rfl hra ht.rd hla (by omega) (by decide) (by simp; omega) (by omega) (fun rb' wb hrb srb hgb => ?_)
      have zb := hgb.size
      have hx9b := hx9a.kept hgb (by intro e; have := (hra.ownlt _ e).1; omega)
      have hb4b := hb4a.trans ((hra.below_of hgb (by omega)).mono (by omega))
      have hc9b := hx9b.cell
      refine go ?_
      refine s_storeFld (wn rfl) rfl rfl srb.one hx9b (fun wc hx9c hgc => ?_)
      have hrc := hrb.kept hgc (by omega)
      have zc := hgc.size
      have hb4c := hb4b.trans (hx9b.below_of hgc (by omega))
      refine go ?_
      exact ⟨xss.length - (j + 1), by omega, j + 1, rb', rfl, by omega, rfl, rfl, rfl, rfl, rfl, rfl, hx9c, by rw [frm_take (by omega)]; exact hrc.top, by omega, hb4c⟩
  · obtain rfl : j = xss.length := by omega
    rw [List.take_length] at hr
    have hc9 := hx9.cell
    have hx47 := hx44.below hb47
    have hlt4 := hx44.lt
    have sr := hr.sv
    refine go ?_
    refine s_storeBox (wn rfl) rfl rfl sr.one hx47 (fun w8 hx48 hg8 => ?_)
    have hr8 := hr.kept hg8 (by omega)
    have hb7 := hb4.trans (hb47.mono (by omega))
    have hb8 := hb7.trans (hx47.below_of hg8 hb7.size)
    refine go ?_
    exact end_cell Tryz.results67 rfl hx48.cell ⟨rb, rfl, (hr8.mono (by omega)).top, hb8⟩
end Go.Proofs.YtablpijnjkncfaaGreat
