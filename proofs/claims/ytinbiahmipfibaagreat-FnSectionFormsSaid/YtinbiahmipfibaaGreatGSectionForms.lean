/- The general law of SectionForms, for every code: its walk and its row. No conditions. -/
import Derived.Test.YtinbiahmipfibaaGreatF110
import Derived.Test.YtinbiahmipfibaaGreatLD
import Derived.Test.YtinbiahmipfibaaGreatPH
import Derived.Test.YtinbiahmipfibaaGreatFI
import Derived.Test.YtinbiahmipfibaaGreatRA
import Derived.WalkKit
import Derived.ShutString
namespace Go.Proofs.YtinbiahmipfibaaGreat
open Go.Mem Go.ChangeShapes Go.WideShapes Go.ChangeAt Go.RowKit
set_option linter.unusedVariables false
set_option linter.unusedSimpArgs false

theorem skC_0 {ms : List (List Int)} {i k : Int} (h : skC ms i k = 0) : IsMan ms ∧ SecOk ms i k := by
  unfold skC at h
  by_cases hm : IsMan ms
  · rw [if_pos hm] at h
    by_cases hs : SecOk ms i k
    · exact ⟨hm, hs⟩
    · rw [if_neg hs] at h; omega
  · rw [if_neg hm] at h; omega

set_option maxHeartbeats 32000000 in
set_option maxRecDepth 100000 in
theorem lawSectionForms_any (c : Value) (bs : List Int) (w : World) (hcl : CL w c bs) :
    Ret Tryz.prog 3 #[c] w fun r w' => r = .bool true ∧ Below w.heap.size w w' := by
  have shcl := hcl.sv
  have hb := Below.refl w.heap.size w
  refine enter1 221 Tryz.func3 rfl Tryz.ntmps3 rfl (fun fr => ?_)
  refine go ?_
  refine s_call1 (wn rfl) rfl rfl (big_any _ _ _ hcl) ?_
  rintro _ _ ⟨rfl, rfl⟩
  refine go ?_
  refine cond_dec rfl (fun hbig => ?_) (fun hbig => ?_)
  · refine go ?_
    exact end_one Tryz.results3 rfl ⟨rfl, hb⟩
  refine go ?_
  refine s_call1 (wn rfl) rfl rfl (DrawSectionForms_any _ _ _ hcl) ?_
  rintro _ w1 ⟨x, ms, i, k, rfl, hv, hb1⟩
  have sw1 := hb1.size
  replace hcl := hcl.below hb1
  replace hb := hb.trans (hb1.mono hb.size)
  have shv := hv.sv
  refine go ?_
  refine s_p (wn rfl) rfl (y_x30 rfl) ?_
  refine s_p (wn rfl) rfl (y_x31 rfl) ?_
  refine s_p (wn rfl) rfl (y_x32 rfl) ?_
  refine go ?_
  refine s_alloc (B := w1.heap.size) (wn rfl) rfl (Nat.le_refl _) (fun w2 p3 hx3 hg2 hpp3 => ?_)
  have hb2 := below_of_grownBy hg2
  refine go ?_
  refine s_storeBox (wn rfl) rfl rfl shv.one hx3 (fun w3 hx3b hg3 => ?_)
  have hbq3 := hb2.trans (hx3.below_of hg3 hb2.size)
  have sw3 := hbq3.size
  replace hcl := hcl.below hbq3
  replace hv := hv.below hbq3
  replace hb := hb.trans (hbq3.mono hb.size)
  have hc3 := hx3b.cell
  refine go ?_
  refine s_call3 (wn rfl) rfl rfl rfl rfl (implSectionForms_any _ _ i k _ hv) ?_
  rintro _ w4 ⟨lx, rfl, hG0, hb4⟩
  have sw4 := hb4.size
  replace hcl := hcl.below hb4
  replace hv := hv.below hb4
  replace hc3 := cell_below hc3 hb4
  replace hb := hb.trans (hb4.mono hb.size)
  have hG := hG0.rs
  clear hG0
  refine go ?_
  refine s_call3 (wn rfl) rfl rfl rfl rfl (specSectionForms_any _ _ i k _ hv) ?_
  rintro _ w5 ⟨ly, rfl, hS2, hb5⟩
  have sw5 := hb5.size
  replace hcl := hcl.below hb5
  replace hv := hv.below hb5
  replace hc3 := cell_below hc3 hb5
  replace hG := hG.below hb5
  replace hb := hb.trans (hb5.mono hb.size)
  have sG := hG.sv
  have sS := hS2.sv
  have scG := sG.le
  have hn1 : ¬ (skC ms i k ≠ skC ms i k) := fun h => h rfl
  have hn2 : ¬ (((sfL ms i k).length : Int) ≠ (sfL ms i k).length) := fun h => h rfl
  refine go ?_
  refine go ?_
  have sbs1 := hb.size
  have hcl_b1 := hcl
  have hv_b1 := hv
  have hc3_b1 := hc3
  have hG_b1 := hG
  have hS2_b1 := hS2
  have hbB1 := Below.refl w5.heap.size w5
  refine w_loop (fun kk fr w' => ∃ (n : Nat), kk = (sfL ms i k).length - n ∧ n ≤ (sfL ms i k).length ∧ fr 0 = c ∧ fr 3 = .pointer (some p3) ∧ fr 4 = .int .i64 i ∧ fr 5 = .int .i64 k ∧ fr 6 = lx ∧ fr 7 = .int .i64 (skC ms i k) ∧ fr 8 = ly ∧ fr 10 = .int .i64 n ∧ Below w5.heap.size w5 w') ((sfL ms i k).length)
    ⟨0, rfl, Nat.zero_le _, rfl, rfl, rfl, rfl, rfl, rfl, rfl, rfl, hbB1⟩ ?_
  rintro kk fr w6 ⟨n, rfl, hn, f0, f3, f4, f5, f6, f7, f8, f10, hbB1⟩
  have sw6 := hbB1.size
  have hcl := hcl_b1.below hbB1
  have hv := hv_b1.below hbB1
  have hc3 := cell_below hc3_b1 hbB1
  have hG := hG_b1.below hbB1
  have hS2 := hS2_b1.below hbB1
  refine know (t := 0) f0 ?_; refine know (t := 3) f3 ?_; refine know (t := 4) f4 ?_; refine know (t := 5) f5 ?_; refine know (t := 6) f6 ?_; refine know (t := 7) f7 ?_; refine know (t := 8) f8 ?_; refine know (t := 10) f10 ?_
  refine go ?_
  refine cond_dec rfl (fun hlt => ?_) (fun hge => ?_)
  · obtain ⟨u, hu, hcu⟩ := hG.el (j := n) (by omega)
    obtain ⟨u2, hu2, hcu2⟩ := hS2.el (j := n) (by omega)
    have hnn : ((n : Int)).toNat = n := by omega
    rw [← hnn] at hcu hcu2
    refine go ?_
    refine region_hS (fun w' => w'.cell? (addrOf lx ((n : Int)).toNat) = some u ∧ w'.cell? (addrOf ly ((n : Int)).toNat) = some u2) mixed (fun w7 hb7 => ?_)
    have sw7 := hb7.size
    replace hcl := hcl.below hb7
    replace hv := hv.below hb7
    replace hc3 := cell_below hc3 hb7
    replace hG := hG.below hb7
    replace hS2 := hS2.below hb7
    replace hu := hu.below hb7
    replace hu2 := hu2.below hb7
    replace hcu := cell_below hcu hb7
    replace hcu2 := cell_below hcu2 hb7
    replace hbB1 := hbB1.trans (hb7.mono hbB1.size)
    refine h_p 0 ⟨hcu, hcu2⟩ ?_ (hrun := fun w' h => by obtain ⟨h1, h2⟩ := h; exact yl)
    refine h_p 1 ⟨hcu, hcu2⟩ ?_ (hrun := fun w' h => by obtain ⟨h1, h2⟩ := h; exact yl)
    refine h_p 2 ⟨hcu, hcu2⟩ ?_ (hrun := fun w' h => y_idxSE rfl rfl sG (by omega) (by omega))
    refine h_p 3 ⟨hcu, hcu2⟩ ?_ (hrun := fun w' h => by obtain ⟨h1, h2⟩ := h; exact yl)
    refine h_p 4 ⟨hcu, hcu2⟩ ?_ (hrun := fun w' h => by obtain ⟨h1, h2⟩ := h; exact yl)
    refine h_p 5 ⟨hcu, hcu2⟩ ?_ (hrun := fun w' h => by obtain ⟨h1, h2⟩ := h; exact yl)
    refine h_p 6 ⟨hcu, hcu2⟩ ?_ (hrun := fun w' h => y_idxSE rfl rfl sS (by omega) (by omega))
    refine h_p 7 ⟨hcu, hcu2⟩ ?_ (hrun := fun w' h => by obtain ⟨h1, h2⟩ := h; exact yl)
    refine h_one 8 ?_
    refine s_call2 (wn rfl) rfl rfl rfl (like5_any _ _ _ _ _ hu hu2) ?_
    rintro _ w8 ⟨rfl, hb8⟩
    have sw8 := hb8.size
    replace hcl := hcl.below hb8
    replace hv := hv.below hb8
    replace hc3 := cell_below hc3 hb8
    replace hG := hG.below hb8
    replace hS2 := hS2.below hb8
    replace hu := hu.below hb8
    replace hu2 := hu2.below hb8
    replace hcu := cell_below hcu hb8
    replace hcu2 := cell_below hcu2 hb8
    replace hbB1 := hbB1.trans (hb8.mono hbB1.size)
    refine w_nil ?_
    refine h_on ⟨⟨hcu, hcu2⟩, ?_⟩
    rw [decide_eq_true rfl]
    refine h_p 9 ⟨hcu, hcu2⟩ ?_ (hrun := fun w' h => by obtain ⟨h1, h2⟩ := h; exact yl)
    refine h_nil ?_
    refine go ?_
    refine ⟨(sfL ms i k).length - (n + 1), by omega, n + 1, rfl, by omega, rfl, rfl, rfl, rfl, rfl, rfl, rfl, rfl, hbB1⟩
  obtain rfl : n = (sfL ms i k).length := by omega
  refine go ?_
  refine cond_dec rfl (fun hc0 => ?_) (fun hc0 => ?_)
  · refine go ?_
    exact end_one Tryz.results3 rfl ⟨rfl, (hb.trans (hbB1.mono hb.size))⟩
  obtain ⟨hm, hs⟩ := skC_0 (Decidable.not_not.1 hc0)
  have e3 := sk_3 hm hs
  have eF := sf_yes hm hs
  have hlk := secA_like hm hs
  have f2 := hm.m0.f2
  have f4 := hm.m0.f400
  have r1 := hm.m0.r1
  have r5 := hm.m0.r5
  have hoks := (secF_ok hm hs).2
  have hsO := hs
  obtain ⟨q1, q2, q3⟩ := id hs
  clear hs
  refine go ?_
  refine s_call3 (wn rfl) rfl rfl rfl rfl (implSectionKinds_any _ _ i k _ hv) ?_
  rintro _ w9 ⟨kx, rfl, hK, hb9⟩
  have sw9 := hb9.size
  replace hcl := hcl.below hb9
  replace hv := hv.below hb9
  replace hc3 := cell_below hc3 hb9
  replace hG := hG.below hb9
  replace hS2 := hS2.below hb9
  replace hbB1 := hbB1.trans (hb9.mono hbB1.size)
  rw [e3.1] at hK
  have hKl : (secK (nf ms) (secA ms i k)).length = nf ms := by
    have hL := (labs_all (hlk.sym fun m h => h) (by omega)).len
    simp [secK, hL]
  have sK := hK.sv
  rw [hKl] at sK
  rw [eF] at hG sG
  have hn3 : ¬ ((nf ms : Int) ≠ nf ms) := fun h => h rfl
  generalize hKe : secK (nf ms) (secA ms i k) = K at *
  refine go ?_
  refine s_call1 (wy rfl rfl rfl rfl rfl known) rfl rfl (flags5_any _ _ _ hv r1) ?_
  rintro _ w10 ⟨rfl, hb10⟩
  have sw10 := hb10.size
  replace hcl := hcl.below hb10
  replace hv := hv.below hb10
  replace hc3 := cell_below hc3 hb10
  replace hG := hG.below hb10
  replace hS2 := hS2.below hb10
  replace hK := hK.below hb10
  replace hbB1 := hbB1.trans (hb10.mono hbB1.size)
  refine go ?_
  have sbs2 := hbB1.size
  have hcl_b2 := hcl
  have hv_b2 := hv
  have hc3_b2 := hc3
  have hG_b2 := hG
  have hS2_b2 := hS2
  have hK_b2 := hK
  have hbB2 := Below.refl w10.heap.size w10
  refine s_call2 (wn rfl) rfl rfl rfl (roll_any _ _ 708 _ hcl (by decide)) ?_
  rintro _ w11 ⟨q, rfl, hs0, hb11⟩
  have sw11 := hb11.size
  replace hcl := hcl.below hb11
  replace hv := hv.below hb11
  replace hc3 := cell_below hc3 hb11
  replace hG := hG.below hb11
  replace hS2 := hS2.below hb11
  replace hK := hK.below hb11
  replace hbB2 := hbB2.trans (hb11.mono hbB2.size)
  refine go ?_
  refine go ?_
  refine w_loop (fun kk fr w' => ∃ (t : Nat), kk = 4 - t ∧ t ≤ 4 ∧ fr 3 = .pointer (some p3) ∧ fr 4 = .int .i64 i ∧ fr 5 = .int .i64 k ∧ fr 6 = lx ∧ fr 11 = kx ∧ fr 13 = .pointer (some ⟨q, 0, none⟩) ∧ fr 14 = .int .i64 t ∧ (Sr w' w10.heap.size q 59 c bs) ∧ Below w10.heap.size w10 w') (4)
    ⟨0, rfl, Nat.zero_le _, rfl, rfl, rfl, rfl, rfl, rfl, rfl, hs0, hbB2⟩ ?_
  rintro kk fr w12 ⟨t, rfl, ht, f3, f4, f5, f6, f11, f13, f14, hs, hbB2⟩
  have sw12 := hbB2.size
  have hcl := hcl_b2.below hbB2
  have hv := hv_b2.below hbB2
  have hc3 := cell_below hc3_b2 hbB2
  have hG := hG_b2.below hbB2
  have hS2 := hS2_b2.below hbB2
  have hK := hK_b2.below hbB2
  refine know (t := 3) f3 ?_; refine know (t := 4) f4 ?_; refine know (t := 5) f5 ?_; refine know (t := 6) f6 ?_; refine know (t := 11) f11 ?_; refine know (t := 13) f13 ?_; refine know (t := 14) f14 ?_
  refine go ?_
  refine cond_dec rfl (fun hlt => ?_) (fun hge => ?_)
  · refine go ?_
    refine s_call1 (wn rfl) rfl rfl (flags5_any _ _ _ hv r1) ?_
    rintro _ w13 ⟨rfl, hb13⟩
    have sw13 := hb13.size
    replace hcl := hcl.below hb13
    replace hv := hv.below hb13
    replace hc3 := cell_below hc3 hb13
    replace hG := hG.below hb13
    replace hS2 := hS2.below hb13
    replace hK := hK.below hb13
    replace hs := hs.below hb13
    replace hbB2 := hbB2.trans (hb13.mono hbB2.size)
    refine go ?_
    refine s_call2 (wn rfl) rfl rfl rfl (below_any q (nf ms) _ c bs _ hs (by omega)) ?_
    rintro _ w14 ⟨y, rfl, hy0, hy, hsN, hgq14⟩
    have sw14 := hgq14.size
    replace hbB2 := hbB2.trans (gr_below hgq14 hbB2.size hs.low)
    replace hs := hsN
    clear hsN hgq14
    replace hcl := hcl_b2.below hbB2
    replace hv := hv_b2.below hbB2
    replace hc3 := cell_below hc3_b2 hbB2
    replace hG := hG_b2.below hbB2
    replace hS2 := hS2_b2.below hbB2
    replace hK := hK_b2.below hbB2
    have hy1 := hy (by omega)
    obtain ⟨g1, g2, g3⟩ := secK_at hlk (by omega) hy1
    rw [hKe] at g1 g2 g3
    obtain ⟨u, hu, hcu⟩ := hG.el (j := (gi K y).toNat) (by omega)
    rw [g3] at hu
    refine go ?_
    refine s_call4 (wn rfl) rfl rfl rfl rfl rfl (SectionAt_good _ _ y i k _ hv hm hy1 hsO) ?_
    rintro _ w15 ⟨sx, rfl, hX, hb15⟩
    have sw15 := hb15.size
    replace hcl := hcl.below hb15
    replace hv := hv.below hb15
    replace hc3 := cell_below hc3 hb15
    replace hG := hG.below hb15
    replace hS2 := hS2.below hb15
    replace hK := hK.below hb15
    replace hs := hs.below hb15
    replace hu := hu.below hb15
    replace hcu := cell_below hcu hb15
    replace hbB2 := hbB2.trans (hb15.mono hbB2.size)
    refine go ?_
    refine s_alloc (B := w15.heap.size) (wn rfl) rfl (Nat.le_refl _) (fun w16 p16 hx16 hg16 hpp16 => ?_)
    have hb16 := below_of_grownBy hg16
    refine go ?_
    refine s_storeBox (wn rfl) rfl rfl hX.sv.one hx16 (fun w17 hx16b hg16 => ?_)
    have hbq16 := hb16.trans (hx16.below_of hg16 hb16.size)
    have sw17 := hbq16.size
    replace hcl := hcl.below hbq16
    replace hv := hv.below hbq16
    replace hc3 := cell_below hc3 hbq16
    replace hG := hG.below hbq16
    replace hS2 := hS2.below hbq16
    replace hK := hK.below hbq16
    replace hs := hs.below hbq16
    replace hu := hu.below hbq16
    replace hcu := cell_below hcu hbq16
    replace hX := hX.below hbq16
    replace hbB2 := hbB2.trans (hbq16.mono hbB2.size)
    have hc16 := hx16b.cell
    have hrX := hX.rl
    have hfm := frm_man hlk hy1
    have hlm : IsMan (lst (frm (nf ms) (secA ms i k) y)) := by
      obtain ⟨fz, hfz, ez⟩ := lst_frm (ms := frm (nf ms) (secA ms i k) y) (by have := hfm.m0.f2; omega)
      rw [ez]; exact form_man hfm hfz
    have hll : lst (frm (nf ms) (secA ms i k) y) = lst (lst (frm (nf ms) (secA ms i k) y)) := by
      obtain ⟨fz, hfz, ez⟩ := lst_frm (ms := frm (nf ms) (secA ms i k) y) (by have := hfm.m0.f2; omega)
      conv => rhs; rw [ez]
      exact (lst_form hfm hfz).symm
    have kz : ¬ ((0 : Int) ≠ 0) := by decide
    have kl : ¬ (gi K y < 0) := by omega
    have kg : ¬ (gi K y ≥ ((secF (nf ms) (secA ms i k)).length : Int)) := by omega
    have hKi := hK.il
    refine go ?_
    refine region_hS (fun w' => IL w' kx K ∧ w'.cell? p16 = some sx ∧ w'.cell? (addrOf lx (gi K y).toNat) = some u) mixed (fun w18 hb18 => ?_)
    have sw18 := hb18.size
    replace hcl := hcl.below hb18
    replace hv := hv.below hb18
    replace hc3 := cell_below hc3 hb18
    replace hG := hG.below hb18
    replace hS2 := hS2.below hb18
    replace hK := hK.below hb18
    replace hs := hs.below hb18
    replace hu := hu.below hb18
    replace hcu := cell_below hcu hb18
    replace hX := hX.below hb18
    replace hc16 := cell_below hc16 hb18
    replace hrX := hrX.below hb18
    replace hKi := hKi.below hb18
    replace hbB2 := hbB2.trans (hb18.mono hbB2.size)
    refine h_p 0 ⟨hKi, hc16, hcu⟩ ?_ (hrun := fun w' h => by obtain ⟨h1, h2, h3⟩ := h; exact yl)
    refine h_p 1 ⟨hKi, hc16, hcu⟩ ?_ (hrun := fun w' h => by obtain ⟨h1, h2, h3⟩ := h; exact yl)
    refine h_p 2 ⟨hKi, hc16, hcu⟩ ?_ (hrun := fun w' h => by obtain ⟨h1, h2, h3⟩ := h; exact yl)
    refine h_p 3 ⟨hKi, hc16, hcu⟩ ?_ (hrun := fun w' h => by obtain ⟨h1, h2, h3⟩ := h; exact yl)
    refine h_p 4 ⟨hKi, hc16, hcu⟩ ?_ (hrun := fun w' h => by obtain ⟨h1, h2, h3⟩ := h; exact yl)
    refine h_p 5 ⟨hKi, hc16, hcu⟩ ?_ (hrun := fun w' h => by obtain ⟨h1, h2, h3⟩ := h; exact yl)
    refine h_p 6 ⟨hKi, hc16, hcu⟩ ?_ (hrun := fun w' h => by obtain ⟨h1, h2, h3⟩ := h; exact yl)
    refine h_p 7 ⟨hKi, hc16, hcu⟩ ?_ (hrun := fun w' h => by obtain ⟨h1, h2, h3⟩ := h; exact yl)
    refine h_p 8 ⟨hKi, hc16, hcu⟩ ?_ (hrun := fun w' h => by obtain ⟨h1, h2, h3⟩ := h; exact yl)
    refine h_p 9 ⟨hKi, hc16, hcu⟩ ?_ (hrun := fun w' h => by obtain ⟨h1, h2, h3⟩ := h; exact yl)
    refine h_p 10 ⟨hKi, hc16, hcu⟩ ?_ (hrun := fun w' h => by obtain ⟨h1, h2, h3⟩ := h; exact yl)
    refine h_p 11 ⟨hKi, hc16, hcu⟩ ?_ (hrun := fun w' h => by obtain ⟨h1, h2, h3⟩ := h; exact yl)
    refine h_p 12 ⟨hKi, hc16, hcu⟩ ?_ (hrun := fun w' h => by obtain ⟨h1, h2, h3⟩ := h; exact yl)
    refine h_p 13 ⟨hKi, hc16, hcu⟩ ?_ (hrun := fun w' h => by obtain ⟨h1, h2, h3⟩ := h; exact yl)
    refine h_p 14 ⟨hKi, hc16, hcu⟩ ?_ (hrun := fun w' h => by obtain ⟨h1, h2, h3⟩ := h; exact yl)
    refine h_p 15 ⟨hKi, hc16, hcu⟩ ?_ (hrun := fun w' h => by obtain ⟨h1, h2, h3⟩ := h; exact yl)
    refine h_p 16 ⟨hKi, hc16, hcu⟩ ?_ (hrun := fun w' h => by obtain ⟨h1, h2, h3⟩ := h; exact yl)
    refine h_p 17 ⟨hKi, hc16, hcu⟩ ?_ (hrun := fun w' h => by obtain ⟨h1, h2, h3⟩ := h; exact yl)
    refine h_p 18 ⟨hKi, hc16, hcu⟩ ?_ (hrun := fun w' h => by obtain ⟨h1, h2, h3⟩ := h; exact yl)
    refine h_p 19 ⟨hKi, hc16, hcu⟩ ?_ (hrun := fun w' h => by obtain ⟨h1, h2, h3⟩ := h; exact yl)
    refine h_p 20 ⟨hKi, hc16, hcu⟩ ?_ (hrun := fun w' h => by obtain ⟨h1, h2, h3⟩ := h; exact yl)
    refine h_p 21 ⟨hKi, hc16, hcu⟩ ?_ (hrun := fun w' h => by obtain ⟨h1, h2, h3⟩ := h; exact yl)
    refine h_p 22 ⟨hKi, hc16, hcu⟩ ?_ (hrun := fun w' h => by obtain ⟨h1, h2, h3⟩ := h; exact yl)
    refine h_p 23 ⟨hKi, hc16, hcu⟩ ?_ (hrun := fun w' h => by obtain ⟨h1, h2, h3⟩ := h; exact yl)
    refine h_p 24 ⟨hKi, hc16, hcu⟩ ?_ (hrun := fun w' h => by obtain ⟨h1, h2, h3⟩ := h; exact yl)
    refine h_p 25 ⟨hKi, hc16, hcu⟩ ?_ (hrun := fun w' h => y_idxSE rfl rfl sG (by omega) (by omega))
    refine h_p 26 ⟨hKi, hc16, hcu⟩ ?_ (hrun := fun w' h => by obtain ⟨h1, h2, h3⟩ := h; exact yl)
    refine h_one 27 ?_
    refine s_call2 (wy rfl rfl rfl rfl rfl known) rfl rfl rfl (least5_good _ _ _ _ _ hrX hu hfm hlm) ?_
    rintro _ w19 ⟨rfl, hb19⟩
    have sw19 := hb19.size
    replace hcl := hcl.below hb19
    replace hv := hv.below hb19
    replace hc3 := cell_below hc3 hb19
    replace hG := hG.below hb19
    replace hS2 := hS2.below hb19
    replace hK := hK.below hb19
    replace hs := hs.below hb19
    replace hu := hu.below hb19
    replace hcu := cell_below hcu hb19
    replace hX := hX.below hb19
    replace hc16 := cell_below hc16 hb19
    replace hrX := hrX.below hb19
    replace hKi := hKi.below hb19
    replace hbB2 := hbB2.trans (hb19.mono hbB2.size)
    rw [← hll, decide_eq_true rfl]
    refine w_nil ?_
    refine h_on ⟨⟨hKi, hc16, hcu⟩, ?_⟩
    refine h_p 28 ⟨hKi, hc16, hcu⟩ ?_ (hrun := fun w' h => by obtain ⟨h1, h2, h3⟩ := h; exact yl)
    refine h_p 29 ⟨hKi, hc16, hcu⟩ ?_ (hrun := fun w' h => by obtain ⟨h1, h2, h3⟩ := h; exact yl)
    refine h_nil ?_
    refine go ?_
    have sbs3 := hbB2.size
    have hcl_b3 := hcl
    have hv_b3 := hv
    have hc3_b3 := hc3
    have hG_b3 := hG
    have hS2_b3 := hS2
    have hK_b3 := hK
    have hs_b3 := hs
    have hu_b3 := hu
    have hcu_b3 := hcu
    have hX_b3 := hX
    have hc16_b3 := hc16
    have hrX_b3 := hrX
    have hKi_b3 := hKi
    have hbB3 := Below.refl w19.heap.size w19
    refine go ?_
    refine w_loop (fun kk fr w' => ∃ (e : Nat), kk = ((k + 1).toNat - i.toNat) - e ∧ e ≤ ((k + 1).toNat - i.toNat) ∧ fr 3 = .pointer (some p3) ∧ fr 4 = .int .i64 i ∧ fr 5 = .int .i64 k ∧ fr 6 = lx ∧ fr 11 = kx ∧ fr 13 = .pointer (some ⟨q, 0, none⟩) ∧ fr 14 = .int .i64 t ∧ fr 15 = .int .i64 y ∧ fr 18 = .int .i64 (i + (e : Int)) ∧ (Sr w' w10.heap.size q 59 c bs) ∧ Below w19.heap.size w19 w') (((k + 1).toNat - i.toNat))
      ⟨0, rfl, Nat.zero_le _, rfl, rfl, rfl, rfl, rfl, rfl, rfl, rfl, by show Value.int _ _ = _; congr 1; omega, hs, hbB3⟩ ?_
    rintro kk fr w20 ⟨e, rfl, he, f3, f4, f5, f6, f11, f13, f14, f15, f18, hs, hbB3⟩
    have sw20 := hbB3.size
    have hcl := hcl_b3.below hbB3
    have hv := hv_b3.below hbB3
    have hc3 := cell_below hc3_b3 hbB3
    have hG := hG_b3.below hbB3
    have hS2 := hS2_b3.below hbB3
    have hK := hK_b3.below hbB3
    have hs := hs_b3.below hbB3
    have hu := hu_b3.below hbB3
    have hcu := cell_below hcu_b3 hbB3
    have hX := hX_b3.below hbB3
    have hc16 := cell_below hc16_b3 hbB3
    have hrX := hrX_b3.below hbB3
    have hKi := hKi_b3.below hbB3
    refine know (t := 3) f3 ?_; refine know (t := 4) f4 ?_; refine know (t := 5) f5 ?_; refine know (t := 6) f6 ?_; refine know (t := 11) f11 ?_; refine know (t := 13) f13 ?_; refine know (t := 14) f14 ?_; refine know (t := 15) f15 ?_; refine know (t := 18) f18 ?_
    refine go ?_
    refine cond_dec rfl (fun hle => ?_) (fun hle => ?_)
    · have hrow := (hm.syst.row (j := i + (e : Int)) (by omega) (by omega)).1
      obtain ⟨u3, hu3, hcu3⟩ := hv.row (j := i + (e : Int)) (by omega) (by omega)
      have su3 := hu3.sv
      rw [hrow] at su3
      have hmv := hm.syst.at (j := i + (e : Int)) (x := y) (by omega) (by omega) hy1
      have hinA : gr ms (i + (e : Int)) ∈ secA ms i k := by
        have h1 : gr ms (i + (e : Int)) = (secA ms i k)[e]'(by simp [secA]; omega) := by simp [secA, gr, List.getD, show (i + (e : Int)).toNat = i.toNat + e by omega, show i.toNat + e < ms.length by omega]
        rw [h1]; exact List.getElem_mem _
      have hmv2 := secK_move hlk (by omega) hy1 hinA
      rw [hKe] at hmv2
      have kc : ¬ (gi K (gi (gr ms (i + (e : Int))) y) ≠ gi K y) := fun h => h hmv2
      have hKi := hK.il
      refine go ?_
      refine region_q mixed (by kernel_rfl) ?_
      refine qo ?_
      refine q_nil ?_
      intro w21 hb21
      have sw21 := hb21.size
      replace hcl := hcl.below hb21
      replace hv := hv.below hb21
      replace hc3 := cell_below hc3 hb21
      replace hG := hG.below hb21
      replace hS2 := hS2.below hb21
      replace hK := hK.below hb21
      replace hs := hs.below hb21
      replace hu := hu.below hb21
      replace hcu := cell_below hcu hb21
      replace hX := hX.below hb21
      replace hc16 := cell_below hc16 hb21
      replace hrX := hrX.below hb21
      replace hKi := hKi.below hb21
      replace hbB3 := hbB3.trans (hb21.mono hbB3.size)
      refine go ?_
      refine ⟨((k + 1).toNat - i.toNat) - (e + 1), by omega, e + 1, rfl, by omega, rfl, rfl, rfl, rfl, rfl, rfl, rfl, rfl, by show Value.int _ _ = _; congr 1; omega, hs, hbB3⟩
    obtain rfl : e = (k + 1).toNat - i.toNat := by omega
    replace hbB2 := hbB2.trans (hbB3.mono hbB2.size)
    refine go ?_
    refine ⟨4 - (t + 1), by omega, t + 1, rfl, by omega, rfl, rfl, rfl, rfl, rfl, rfl, rfl, hs, hbB2⟩
  obtain rfl : t = 4 := by omega
  refine go ?_
  refine cond_dec rfl (fun h1 => ?_) (fun h1 => ?_)
  · refine go ?_
    exact end_one Tryz.results3 rfl ⟨rfl, ((hb.trans (hbB1.mono hb.size)).trans (hbB2.mono (hb.trans (hbB1.mono hb.size)).size))⟩
  have hso0 : SecOk ms 0 ((ms.length : Int) - 2) := ⟨by omega, by omega, by omega⟩
  have hso1 : SecOk ms 1 ((ms.length : Int) - 1) := ⟨by omega, by omega, by omega⟩
  have c0 := (sk_3 hm hso0).2
  have c1 := (sk_3 hm hso1).2
  have l0 := sf_yes hm hso0
  have l1 := sf_yes hm hso1
  have eh := hf_3 hm (by omega)
  have ev := he_3 hm (by omega)
  refine go ?_
  refine s_call3 (wn rfl) rfl rfl rfl rfl (implSectionForms_any _ _ 0 ((ms.length : Int) - 2) _ hv) ?_
  rintro _ w22 ⟨la, rfl, hA0, hb22⟩
  have sw22 := hb22.size
  replace hcl := hcl.below hb22
  replace hv := hv.below hb22
  replace hc3 := cell_below hc3 hb22
  replace hG := hG.below hb22
  replace hS2 := hS2.below hb22
  replace hK := hK.below hb22
  replace hs := hs.below hb22
  replace hbB2 := hbB2.trans (hb22.mono hbB2.size)
  have hA := hA0.rs
  rw [l0] at hA
  rw [c0]
  have sA := hA.sv
  refine go ?_
  refine s_call3 (wn rfl) rfl rfl rfl rfl (implSectionForms_any _ _ 1 ((ms.length : Int) - 1) _ hv) ?_
  rintro _ w23 ⟨lb, rfl, hB0, hb23⟩
  have sw23 := hb23.size
  replace hcl := hcl.below hb23
  replace hv := hv.below hb23
  replace hc3 := cell_below hc3 hb23
  replace hG := hG.below hb23
  replace hS2 := hS2.below hb23
  replace hK := hK.below hb23
  replace hs := hs.below hb23
  replace hbB2 := hbB2.trans (hb23.mono hbB2.size)
  have hB := hB0.rs
  rw [l1] at hB
  rw [c1]
  have sB := hB.sv
  refine go ?_
  refine s_call1 (wn rfl) rfl rfl (implHasEqualFacets_any _ _ _ hv) ?_
  rintro _ w24 ⟨rfl, hb24⟩
  have sw24 := hb24.size
  replace hcl := hcl.below hb24
  replace hv := hv.below hb24
  replace hc3 := cell_below hc3 hb24
  replace hG := hG.below hb24
  replace hS2 := hS2.below hb24
  replace hK := hK.below hb24
  replace hs := hs.below hb24
  replace hbB2 := hbB2.trans (hb24.mono hbB2.size)
  rw [eh.1, eh.2]
  refine go ?_
  refine s_call1 (wn rfl) rfl rfl (implHasEqualVertexFigures_any _ _ _ hv) ?_
  rintro _ w25 ⟨rfl, hb25⟩
  have sw25 := hb25.size
  replace hcl := hcl.below hb25
  replace hv := hv.below hb25
  replace hc3 := cell_below hc3 hb25
  replace hG := hG.below hb25
  replace hS2 := hS2.below hb25
  replace hK := hK.below hb25
  replace hs := hs.below hb25
  replace hbB2 := hbB2.trans (hb25.mono hbB2.size)
  rw [ev.1, ev.2]
  have kz : decide ((0 : Int) = 0) = true := rfl
  have n0 : decide (((secF (nf ms) (secA ms 0 ((ms.length : Int) - 2))).length : Int) = 1) = decide ((secF (nf ms) (secA ms 0 ((ms.length : Int) - 2))).length = 1) := by rw [decide_eq_decide]; omega
  have n1 : decide (((secF (nf ms) (secA ms 1 ((ms.length : Int) - 1))).length : Int) = 1) = decide ((secF (nf ms) (secA ms 1 ((ms.length : Int) - 1))).length = 1) := by rw [decide_eq_decide]; omega
  have e0 := decide_eq_true n0.symm
  have e1 := decide_eq_true n1.symm
  refine go ?_
  exact end_one Tryz.results3 rfl ⟨by rw [e1], ((hb.trans (hbB1.mono hb.size)).trans (hbB2.mono (hb.trans (hbB1.mono hb.size)).size))⟩


set_option maxRecDepth 100000 in
theorem liftedSectionForms (os : Os) (started : os.Started) (H : Type) (enc : TypeId × Value → H) :
    ReturnsInHanded {} Tryz.checked os 3 .any (Rows.fnSectionFormsSpec.pre6 enc Tryz.prog Tryz.f3 Rows.fnSectionFormsRow.domain false) (Rows.fnSectionFormsSpec.post enc Tryz.prog Tryz.f3 false true false false) := by
  refine returnsInHanded_of_change (C := Tryz.checked) own started (by kernel_rfl) Tryz.func3
    (ChangeSpec.witness6 (enc := enc) (C := Tryz.checked) false ⟨#[], #[.slice none 0 0], []⟩ 8 (by kernel_rfl) (by kernel_rfl) (by kernel_rfl) (by kernel_rfl)) ?_
  intro W base args ds gs before hval0 hW hcnd _
  have hval : ∀ (j : Nat) t v, Tryz.f3.params[j]? = some t → args[j]? = some v → Value.okWide Tryz.prog W .any base t v := hval0
  have hW' := hW
  obtain ⟨p, q, hA0, hV, rfl, hfz, hnd⟩ := hW
  have hA : DataW.TrodAll enc Tryz.prog W 0 (fun _ => true) true Tryz.f3.params.toList args.toList ds p := hA0
  rw [Tryz.params3] at hA hval
  obtain ⟨v0, vs0, d0, ds0, p0, q0, hargs, rfl, rfl, h0, r0⟩ := trodAll_cons hA
  obtain ⟨rfl, rfl, rfl⟩ := trodAll_nil r0
  obtain rfl : args = #[v0] := by cases args; simp_all
  obtain ⟨rfl, rfl⟩ := trodVars_none hV
  have lt0 : ∀ x ∈ p0, x.block < W.heap.size := by obtain ⟨m, hm⟩ := h0; exact DataW.trod_lt m _ _ _ hm
  obtain ⟨xs0, hu0⟩ := open_arg_B (hval 0 22 v0 rfl rfl) h0
  clear hA0 hval0
  refine Calls.mono (lawSectionForms_any v0 xs0 W hu0) fun e W' ⟨v, he, hv, bel⟩ => ?_
  subst he
  subst hv
  exact ⟨_, rfl, _, _, _, [], _, [], hW', trodAll_mk1 (shut_bool Tryz.underlying4 _), (trodAll_cons_mk (Below.trod laidOut (by kernel_rfl) (of_decide_eq_true (by kernel_rfl)) h0 bel lt0) trodAll_mk0), rfl, bel.frame _, fun h => by cases h⟩

theorem provedSectionForms : Rows.FnSectionFormsSaid :=
  OpenClaim.holds_of_wide 3 Tryz.f3 rfl rfl rfl rfl rfl rfl rfl ⟨rfl, rfl, rfl, rfl, rfl⟩ rfl rfl rfl rfl rfl (by kernel_rfl) Tryz.func3 (by kernel_rfl)
    (of_decide_eq_true (by kernel_rfl)) (by unfold Func.isWrapper; first | (rw [if_pos (by decide +kernel)]; kernel_rfl) | (rw [if_neg (by decide +kernel)]; exact ⟨rfl, rfl⟩))
    (fun os started H enc _ => liftedSectionForms os started H enc)

end Go.Proofs.YtinbiahmipfibaaGreat
