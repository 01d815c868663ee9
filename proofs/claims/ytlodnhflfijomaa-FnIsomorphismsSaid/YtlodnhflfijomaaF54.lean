/- Contracts: any maniplex drawn. -/
import Derived.Test.YtlodnhflfijomaaF53
namespace Go.Proofs.Ytlodnhflfijomaa
open Go.Mem Go.RowKit
set_option linter.unusedVariables false
set_option linter.unusedSimpArgs false

set_option maxHeartbeats 16000000 in
set_option maxRecDepth 100000 in
theorem l02Any_any (q B : Nat) (c : Value) (bs : List Int) (most : Int) (M : Nat) (w : World) (em : most = M) (h1 : 8 ≤ M) (hM : M ≤ 400) (hs : Sr w B q 140 c bs) :
    Ret Try.prog 190 #[.pointer (some ⟨q, 0, none⟩), .int .i64 most] w fun r w' => ∃ x xss, ∃ N : Nat, r = .agg #[x] ∧ OM w' w.heap.size w'.heap.size 40 2 x xss ∧ (1 ≤ xss.length ∧ xss.length ≤ 5) ∧ (1 ≤ N ∧ N ≤ M) ∧ Syst N xss ∧ Sr w' B q 140 c bs ∧ w.grownBy w' (some q) := by
  refine enter2 89 Try.func190 rfl Try.ntmps190 rfl (fun fr => ?_)
  have hql := hs.lt
  have hEs : Syst 2 [[1, 0]] := by
    intro m hm
    simp at hm; subst hm
    exact ⟨rfl, fun x hx => by simp at hx; rcases hx with rfl | rfl <;> omega⟩
  refine go2 ?_
  refine s_alloc (B := w.heap.size) (wn rfl) rfl (Nat.le_refl _) (fun w1 p4 hx4 hg1 hp4 => ?_)
  have hb1 := below_of_grownBy hg1
  have z1 := hb1.size
  have hlt4 := hx4.lt
  replace hs := hs.below hb1
  have hg := grownBy_of_below hb1 (some q)
  refine go2 ?_
  refine s_build2 (B := w1.heap.size) (wn rfl) rfl rfl rfl (Nat.le_refl _) (fun rv w2 hr sr hg2 _ => ?_)
  have hb2 := below_of_grownBy hg2
  replace hx4 := hx4.below hb2
  replace hs := hs.below hb2
  have z_hb2 := hb2.size
  replace hg := gr_step hg (grownBy_of_below hb2 none) (fun k hk => by cases hk)
  have zg_hb2 := hg.size
  have hrlt := fun g hg => (hr.lt g hg).2
  refine go2 ?_
  refine s_build1V (B := w1.heap.size) (wn rfl) rfl rfl sr.one z_hb2 (fun ev w3 he se hg3 _ => ?_)
  have hb3 := below_of_grownBy hg3
  replace hx4 := hx4.below hb3
  replace hs := hs.below hb3
  have z_hb3 := hb3.size
  replace hg := gr_step hg (grownBy_of_below hb3 none) (fun k hk => by cases hk)
  have zg_hb3 := hg.size
  have hE := (Rws.one' (hr.below hb3) (E := w3.heap.size) (fun g h => by have := hrlt g h; omega)).om he
  have hEv := fun g h => (hE.ownlt g h).2
  obtain ⟨E1, hE1⟩ : ∃ E1, E1 = w3.heap.size := ⟨_, rfl⟩
  rw [← hE1] at hE hEv
  refine go2 ?_
  refine s_p (wn rfl) rfl (y_bld1 rfl se.one) ?_
  refine go2 ?_
  refine s_alloc (B := w.heap.size) (wn rfl) rfl (by omega) (fun w4 p5 hx5 hg4 hp5 => ?_)
  have hb4 := below_of_grownBy hg4
  replace hE := hE.below hb4
  replace hx4 := hx4.below hb4
  replace hs := hs.below hb4
  have z_hb4 := hb4.size
  replace hg := gr_step hg (grownBy_of_below hb4 none) (fun k hk => by cases hk)
  have zg_hb4 := hg.size
  have hlt5 := hx5.lt
  refine go2 ?_
  refine s_storeBox (wn rfl) rfl rfl se.one hx5 (fun w5 hx5N hg5 => ?_)
  replace hx5 := hx5N
  replace hx4 := hx4.kept hg5 (by intro e; have := Option.some.inj e; omega)
  replace hE := hE.apart2 hEv hg5 (fun g e => .inr (by have := Option.some.inj e; omega))
  replace hs := hs.kept hg5 (fun k hk => by cases hk; exact ⟨by have := hs.low; omega, by omega⟩)
  replace hg := gr_step hg hg5 (fun k hk => by cases hk; omega)
  have z5 := hg5.size
  have hc5 := hx5.cell
  refine go2 ?_
  refine s_alloc (B := w.heap.size) (wn rfl) rfl (by omega) (fun w6 p6 hx6 hg6 hp6 => ?_)
  have hb6 := below_of_grownBy hg6
  replace hE := hE.below hb6
  replace hx4 := hx4.below hb6
  replace hx5 := hx5.below hb6
  replace hs := hs.below hb6
  have z_hb6 := hb6.size
  replace hg := gr_step hg (grownBy_of_below hb6 none) (fun k hk => by cases hk)
  have zg_hb6 := hg.size
  have hlt6 := hx6.lt
  refine go2 ?_
  refine s_storeBox (wn rfl) rfl rfl se.one hx6 (fun w7 hx6N hg7 => ?_)
  replace hx6 := hx6N
  replace hx4 := hx4.kept hg7 (by intro e; have := Option.some.inj e; omega)
  replace hx5 := hx5.kept hg7 (by intro e; have := Option.some.inj e; omega)
  replace hE := hE.apart2 hEv hg7 (fun g e => .inr (by have := Option.some.inj e; omega))
  replace hs := hs.kept hg7 (fun k hk => by cases hk; exact ⟨by have := hs.low; omega, by omega⟩)
  replace hg := gr_step hg hg7 (fun k hk => by cases hk; omega)
  have z7 := hg7.size
  clear hc5
  refine w_nil ?_
  refine then_normal ?_
  refine w_seq ?_
  refine meet (fun fr w' => ∃ (x : Value) (xss : List (List Int)) (N B3 : Nat), fr 0 = .pointer (some ⟨q, 0, none⟩) ∧ fr 1 = .int .i64 most ∧ fr 4 = .pointer (some p4) ∧ fr 5 = .pointer (some p5) ∧ fr 6 = .pointer (some p6) ∧ Bx w' w.heap.size p6 28 x ∧ OM w' B3 w'.heap.size 40 2 x xss ∧ p6.block < B3 ∧ (1 ≤ xss.length ∧ xss.length ≤ 5) ∧ (1 ≤ N ∧ N ≤ M) ∧ Syst N xss ∧ OM w' w1.heap.size E1 40 2 ev [[1, 0]] ∧ Bx w' w.heap.size p4 28 (.slice none 0 0) ∧ Bx w' w.heap.size p5 28 ev ∧ Sr w' B q 140 c bs ∧ w.grownBy w' (some q)) ?_ ?_
  · refine go2 ?_
    refine s_call2 (wn rfl) rfl rfl rfl (l01Next_any q 7 B c bs _ hs (by omega)) ?_
    rintro _ wna ⟨ka, rfl, _, hka, hsa, hga⟩
    replace hx4 := hx4.kept hga (by intro e; have := Option.some.inj e; omega)
    replace hx5 := hx5.kept hga (by intro e; have := Option.some.inj e; omega)
    replace hx6 := hx6.kept hga (by intro e; have := Option.some.inj e; omega)
    replace hE := hE.kept hga (by omega)
    replace hs := hsa
    replace hg := grownBy_trans hg hga
    have zg_hga := hg.size
    have z_hga := hga.size
    have hk := hka (by omega)
    by_cases c0 : ka = 0
    · refine go2 ?_
      refine s_call2 (wn rfl) rfl rfl rfl (l01Next_any q (most / 2) B c bs _ hs (by omega)) ?_
      rintro _ wnb ⟨kb, rfl, _, hkb, hsb, hgb⟩
      replace hx4 := hx4.kept hgb (by intro e; have := Option.some.inj e; omega)
      replace hx5 := hx5.kept hgb (by intro e; have := Option.some.inj e; omega)
      replace hx6 := hx6.kept hgb (by intro e; have := Option.some.inj e; omega)
      replace hE := hE.kept hgb (by omega)
      replace hs := hsb
      replace hg := grownBy_trans hg hgb
      have zg_hgb := hg.size
      have z_hgb := hgb.size
      have hkb2 := hkb (by omega)
      refine go2 ?_
      refine s_call1 (wn rfl) rfl rfl (l02Polygon_any (1 + kb) ((1 + kb).toNat) _ (by omega) (by omega) (by omega)) ?_
      rintro _ wpp ⟨xp, xsp, rfl, hmp, hlp, hyp, hbp⟩
      replace hE := hE.below hbp
      replace hx4 := hx4.below hbp
      replace hx5 := hx5.below hbp
      replace hx6 := hx6.below hbp
      replace hs := hs.below hbp
      have z_hbp := hbp.size
      replace hg := gr_step hg (grownBy_of_below hbp none) (fun k hk => by cases hk)
      have zg_hbp := hg.size
      have hm := hmp
      refine s_storeBox (wn rfl) rfl rfl hm.sv.one hx6 (fun wsp hxN hgN => ?_)
      replace hm := hm.kept hgN (by omega)
      replace hx4 := hx4.kept hgN (by intro e; have := Option.some.inj e; omega)
      replace hx5 := hx5.kept hgN (by intro e; have := Option.some.inj e; omega)
      replace hE := hE.apart2 hEv hgN (fun g e => .inr (by have := Option.some.inj e; omega))
      replace hs := hs.kept hgN (fun k hk => by cases hk; exact ⟨by have := hs.low; omega, by omega⟩)
      replace hg := gr_step hg hgN (fun k hk => by cases hk; omega)
      have zsp := hgN.size
      replace hx6 := hxN
      clear hxN
      refine go2 ?_
      exact ⟨_, _, 2 * (1 + kb).toNat, _, rfl, rfl, rfl, rfl, rfl, hx6, hm.top, by omega, by omega, by omega, hyp, hE, hx4, hx5, hs, hg⟩
    by_cases c1 : ka = 1
    · have hc5 := hx5.cell
      refine go2 ?_
      refine s_storeBox (wn rfl) rfl rfl se.one hx4 (fun wz hxz hgz => ?_)
      have hEz := hE.apart2 hEv hgz (fun g e => .inl (by have := Option.some.inj e; omega))
      have hsz := hs.kept hgz (fun k hk => by cases hk; exact ⟨by have := hs.low; omega, by omega⟩)
      have zz := hgz.size
      refine go2 ?_
      exact end_cell Try.results190 rfl hxz.cell ⟨ev, _, 2, rfl, (hEz.mono (by omega)).top, by decide, by omega, hEs, hsz, gr_step hg hgz (fun k hk => by cases hk; omega)⟩
    by_cases c2 : ka = 2
    · refine go2 ?_
      refine s_call2 (wn rfl) rfl rfl rfl (l01Next_any q (most / 4) B c bs _ hs (by omega)) ?_
      rintro _ wnb ⟨kb, rfl, _, hkb, hsb, hgb⟩
      replace hx4 := hx4.kept hgb (by intro e; have := Option.some.inj e; omega)
      replace hx5 := hx5.kept hgb (by intro e; have := Option.some.inj e; omega)
      replace hx6 := hx6.kept hgb (by intro e; have := Option.some.inj e; omega)
      replace hE := hE.kept hgb (by omega)
      replace hs := hsb
      replace hg := grownBy_trans hg hgb
      have zg_hgb := hg.size
      have z_hgb := hgb.size
      have hkb2 := hkb (by omega)
      refine go2 ?_
      refine s_call1 (wn rfl) rfl rfl (l02Polygon_any (1 + kb) ((1 + kb).toNat) _ (by omega) (by omega) (by omega)) ?_
      rintro _ wpp ⟨xp, xsp, rfl, hmp, hlp, hyp, hbp⟩
      replace hE := hE.below hbp
      replace hx4 := hx4.below hbp
      replace hx5 := hx5.below hbp
      replace hx6 := hx6.below hbp
      replace hs := hs.below hbp
      have z_hbp := hbp.size
      replace hg := gr_step hg (grownBy_of_below hbp none) (fun k hk => by cases hk)
      have zg_hbp := hg.size
      have hm := hmp
      refine s_storeBox (wn rfl) rfl rfl hm.sv.one hx6 (fun wsp hxN hgN => ?_)
      replace hm := hm.kept hgN (by omega)
      replace hx4 := hx4.kept hgN (by intro e; have := Option.some.inj e; omega)
      replace hx5 := hx5.kept hgN (by intro e; have := Option.some.inj e; omega)
      replace hE := hE.apart2 hEv hgN (fun g e => .inr (by have := Option.some.inj e; omega))
      replace hs := hs.kept hgN (fun k hk => by cases hk; exact ⟨by have := hs.low; omega, by omega⟩)
      replace hg := gr_step hg hgN (fun k hk => by cases hk; omega)
      have zsp := hgN.size
      replace hx6 := hxN
      clear hxN
      have hc6 := hx6.cell
      have hc5 := hx5.cell
      refine go2 ?_
      refine s_call2 (wn rfl) rfl rfl rfl (l02Beside_any _ _ _ _ (2 * (1 + kb).toNat) 2 _ hm.rl hE.rl hyp hEs (by omega) (by decide) (by omega) (by decide) (by omega) (by omega) (by decide)) ?_
      rintro _ wq ⟨x2, xs2, rfl, hm2, hl2, hy2, hb2'⟩
      replace hE := hE.below hb2'
      replace hx4 := hx4.below hb2'
      replace hx5 := hx5.below hb2'
      replace hx6 := hx6.below hb2'
      replace hs := hs.below hb2'
      have z_q := hb2'.size
      replace hg := gr_step hg (grownBy_of_below hb2' none) (fun k hk => by cases hk)
      have zg_q := hg.size
      have hlx : xs2.length = 3 := by rw [hl2, hlp]; rfl
      have hm := hm2
      refine s_storeBox (wn rfl) rfl rfl hm.sv.one hx6 (fun wsq hxN hgN => ?_)
      replace hm := hm.kept hgN (by omega)
      replace hx4 := hx4.kept hgN (by intro e; have := Option.some.inj e; omega)
      replace hx5 := hx5.kept hgN (by intro e; have := Option.some.inj e; omega)
      replace hE := hE.apart2 hEv hgN (fun g e => .inr (by have := Option.some.inj e; omega))
      replace hs := hs.kept hgN (fun k hk => by cases hk; exact ⟨by have := hs.low; omega, by omega⟩)
      replace hg := gr_step hg hgN (fun k hk => by cases hk; omega)
      have zsq := hgN.size
      replace hx6 := hxN
      clear hxN
      refine go2 ?_
      exact ⟨_, _, 2 * (1 + kb).toNat * 2, _, rfl, rfl, rfl, rfl, rfl, hx6, hm.top, by omega, by omega, by omega, hy2, hE, hx4, hx5, hs, hg⟩
    by_cases c3 : ka = 3
    · refine go2 ?_
      refine s_call2 (wn rfl) rfl rfl rfl (l01Next_any q 4 B c bs _ hs (by omega)) ?_
      rintro _ wnb ⟨kb, rfl, _, hkb, hsb, hgb⟩
      replace hx4 := hx4.kept hgb (by intro e; have := Option.some.inj e; omega)
      replace hx5 := hx5.kept hgb (by intro e; have := Option.some.inj e; omega)
      replace hx6 := hx6.kept hgb (by intro e; have := Option.some.inj e; omega)
      replace hE := hE.kept hgb (by omega)
      replace hs := hsb
      replace hg := grownBy_trans hg hgb
      have zg_hgb := hg.size
      have z_hgb := hgb.size
      have hkb2 := hkb (by omega)
      obtain ⟨PB, hPB⟩ : ∃ PB : Nat, 1 + kb = PB := ⟨(1 + kb).toNat, by omega⟩
      refine go2 ?_
      refine s_p (wn rfl) rfl (y_mul rfl rfl (by constructor <;> omega)) ?_
      by_cases cp : most < 4 * (1 + kb)
      · obtain ⟨PN, hPN, hP1, hP4⟩ : ∃ PN : Nat, (2 : Int) = PN ∧ 1 ≤ PN ∧ PN ≤ 4 := ⟨2, rfl, by decide, by decide⟩
        have hPM : 4 * PN ≤ M := by omega
        have hP42 : PN = 1 ∨ PN = 2 ∨ PN = 3 ∨ PN = 4 := by omega
        refine go2 ?_
        refine region_hS (fun _ => True) mixed (fun wr cr => ?_)
        replace hE := hE.below cr
        replace hx4 := hx4.below cr
        replace hx5 := hx5.below cr
        replace hx6 := hx6.below cr
        replace hs := hs.below cr
        have z_cr := cr.size
        replace hg := gr_step hg (grownBy_of_below cr none) (fun k hk => by cases hk)
        have zg_cr := hg.size
        refine h_p 0 trivial ?_ (hrun := fun _ _ => yl)
        refine h_p 2 trivial ?_ (hrun := fun _ _ => yl)
        refine h_p 3 trivial ?_ (hrun := fun _ _ => yl)
        refine h_p 4 trivial ?_ (hrun := fun _ _ => yl)
        refine h_p 5 trivial ?_ (hrun := fun _ _ => y_mul rfl rfl (by constructor <;> omega))
        refine h_p 6 trivial ?_ (hrun := fun _ _ => y_quo rfl rfl (by omega) (by omega) (by omega))
        refine h_one 1 ?_
        refine s_call1 (wn rfl) rfl rfl (l02Polygon_any (2) (PN) _ (by omega) (by omega) (by omega)) ?_
        rintro _ wpp ⟨xp, xsp, rfl, hmp, hlp, hyp, hbp⟩
        replace hE := hE.below hbp
        replace hx4 := hx4.below hbp
        replace hx5 := hx5.below hbp
        replace hx6 := hx6.below hbp
        replace hs := hs.below hbp
        have z_hbp := hbp.size
        replace hg := gr_step hg (grownBy_of_below hbp none) (fun k hk => by cases hk)
        have zg_hbp := hg.size
        refine w_nil ?_
        refine h_on ⟨trivial, ?_⟩
        have hmq : 1 ≤ most / (4 * (2)) := by
          rw [hPN, em]
          rcases hP42 with rfl | rfl | rfl | rfl <;> omega
        refine h_one 7 ?_
        refine s_call2 (wn rfl) rfl rfl rfl (l01Next_any q (most / (4 * (2))) B c bs _ hs (Int.le_trans (Int.ediv_le_self _ (by omega)) (by omega))) ?_
        rintro _ wnc ⟨kc, rfl, _, hkc, hsc, hgc⟩
        have hkc2 := hkc hmq
        replace hmp := hmp.kept hgc (by omega)
        replace hx4 := hx4.kept hgc (by intro e; have := Option.some.inj e; omega)
        replace hx5 := hx5.kept hgc (by intro e; have := Option.some.inj e; omega)
        replace hx6 := hx6.kept hgc (by intro e; have := Option.some.inj e; omega)
        replace hE := hE.kept hgc (by omega)
        replace hs := hsc
        replace hg := grownBy_trans hg hgc
        have zg_hgc := hg.size
        have z_hgc := hgc.size
        refine w_nil ?_
        refine h_on ⟨trivial, ?_⟩
        have hkcM : kc < most := Int.lt_of_lt_of_le hkc2.2 (Int.ediv_le_self _ (by omega))
        refine h_p 8 trivial ?_ (hrun := fun _ _ => yl)
        refine h_one 9 ?_
        refine s_call1 (wn rfl) rfl rfl (l02Polygon_any (1 + kc) ((1 + kc).toNat) _ (by omega) (by omega) (by omega)) ?_
        rintro _ wpr ⟨xr, xsr, rfl, hmr, hlr, hyr, hbr⟩
        replace hE := hE.below hbr
        replace hx4 := hx4.below hbr
        replace hx5 := hx5.below hbr
        replace hx6 := hx6.below hbr
        replace hs := hs.below hbr
        have z_hbr := hbr.size
        replace hg := gr_step hg (grownBy_of_below hbr none) (fun k hk => by cases hk)
        have zg_hbr := hg.size
        replace hmp := hmp.below hbr
        refine w_nil ?_
        refine h_on ⟨trivial, ?_⟩
        have hNN : 2 * PN * (2 * (1 + kc).toNat) ≤ M := by
          rw [hPN, em] at hkc2
          rcases hP42 with rfl | rfl | rfl | rfl <;> omega
        have hNN1 : 1 ≤ 2 * PN * (2 * (1 + kc).toNat) := Nat.mul_pos (by omega) (by omega)
        refine h_one 10 ?_
        refine s_call2 (wn rfl) rfl rfl rfl (l02Beside_any _ _ _ _ (2 * PN) (2 * (1 + kc).toNat) _ hmp.rl hmr.rl hyp hyr (by omega) (by omega) (by omega) (by omega) (by omega) (by omega) (by omega)) ?_
        rintro _ wq ⟨x2, xs2, rfl, hm2, hl2, hy2, hbt⟩
        replace hE := hE.below hbt
        replace hx4 := hx4.below hbt
        replace hx5 := hx5.below hbt
        replace hx6 := hx6.below hbt
        replace hs := hs.below hbt
        have z_hbt := hbt.size
        replace hg := gr_step hg (grownBy_of_below hbt none) (fun k hk => by cases hk)
        have zg_hbt := hg.size
        refine w_nil ?_
        refine h_on ⟨trivial, ?_⟩
        refine h_one 11 ?_
        have hm := hm2
        refine s_storeBox (wn rfl) rfl rfl hm.sv.one hx6 (fun wsq hxN hgN => ?_)
        replace hm := hm.kept hgN (by omega)
        replace hx4 := hx4.kept hgN (by intro e; have := Option.some.inj e; omega)
        replace hx5 := hx5.kept hgN (by intro e; have := Option.some.inj e; omega)
        replace hE := hE.apart2 hEv hgN (fun g e => .inr (by have := Option.some.inj e; omega))
        replace hs := hs.kept hgN (fun k hk => by cases hk; exact ⟨by have := hs.low; omega, by omega⟩)
        replace hg := gr_step hg hgN (fun k hk => by cases hk; omega)
        have zsq := hgN.size
        replace hx6 := hxN
        clear hxN
        refine w_nil ?_
        refine h_on ⟨trivial, ?_⟩
        refine h_nil ?_
        refine go2 ?_
        exact ⟨_, _, 2 * PN * (2 * (1 + kc).toNat), _, rfl, rfl, rfl, rfl, rfl, hx6, hm.top, by omega, by omega, by omega, hy2, hE, hx4, hx5, hs, hg⟩
      · obtain ⟨PN, hPN, hP1, hP4⟩ : ∃ PN : Nat, (1 + kb) = PN ∧ 1 ≤ PN ∧ PN ≤ 4 := ⟨PB, hPB, by omega, by omega⟩
        have hPM : 4 * PN ≤ M := by omega
        have hP42 : PN = 1 ∨ PN = 2 ∨ PN = 3 ∨ PN = 4 := by omega
        refine go2 ?_
        refine region_hS (fun _ => True) mixed (fun wr cr => ?_)
        replace hE := hE.below cr
        replace hx4 := hx4.below cr
        replace hx5 := hx5.below cr
        replace hx6 := hx6.below cr
        replace hs := hs.below cr
        have z_cr := cr.size
        replace hg := gr_step hg (grownBy_of_below cr none) (fun k hk => by cases hk)
        have zg_cr := hg.size
        refine h_p 0 trivial ?_ (hrun := fun _ _ => yl)
        refine h_p 2 trivial ?_ (hrun := fun _ _ => yl)
        refine h_p 3 trivial ?_ (hrun := fun _ _ => yl)
        refine h_p 4 trivial ?_ (hrun := fun _ _ => yl)
        refine h_p 5 trivial ?_ (hrun := fun _ _ => y_mul rfl rfl (by constructor <;> omega))
        refine h_p 6 trivial ?_ (hrun := fun _ _ => y_quo rfl rfl (by omega) (by omega) (by omega))
        refine h_one 1 ?_
        refine s_call1 (wn rfl) rfl rfl (l02Polygon_any (1 + kb) (PN) _ (by omega) (by omega) (by omega)) ?_
        rintro _ wpp ⟨xp, xsp, rfl, hmp, hlp, hyp, hbp⟩
        replace hE := hE.below hbp
        replace hx4 := hx4.below hbp
        replace hx5 := hx5.below hbp
        replace hx6 := hx6.below hbp
        replace hs := hs.below hbp
        have z_hbp := hbp.size
        replace hg := gr_step hg (grownBy_of_below hbp none) (fun k hk => by cases hk)
        have zg_hbp := hg.size
        refine w_nil ?_
        refine h_on ⟨trivial, ?_⟩
        have hmq : 1 ≤ most / (4 * (1 + kb)) := by
          rw [hPN, em]
          rcases hP42 with rfl | rfl | rfl | rfl <;> omega
        refine h_one 7 ?_
        refine s_call2 (wn rfl) rfl rfl rfl (l01Next_any q (most / (4 * (1 + kb))) B c bs _ hs (Int.le_trans (Int.ediv_le_self _ (by omega)) (by omega))) ?_
        rintro _ wnc ⟨kc, rfl, _, hkc, hsc, hgc⟩
        have hkc2 := hkc hmq
        replace hmp := hmp.kept hgc (by omega)
        replace hx4 := hx4.kept hgc (by intro e; have := Option.some.inj e; omega)
        replace hx5 := hx5.kept hgc (by intro e; have := Option.some.inj e; omega)
        replace hx6 := hx6.kept hgc (by intro e; have := Option.some.inj e; omega)
        replace hE := hE.kept hgc (by omega)
        replace hs := hsc
        replace hg := grownBy_trans hg hgc
        have zg_hgc := hg.size
        have z_hgc := hgc.size
        refine w_nil ?_
        refine h_on ⟨trivial, ?_⟩
        have hkcM : kc < most := Int.lt_of_lt_of_le hkc2.2 (Int.ediv_le_self _ (by omega))
        refine h_p 8 trivial ?_ (hrun := fun _ _ => yl)
        refine h_one 9 ?_
        refine s_call1 (wn rfl) rfl rfl (l02Polygon_any (1 + kc) ((1 + kc).toNat) _ (by omega) (by omega) (by omega)) ?_
        rintro _ wpr ⟨xr, xsr, rfl, hmr, hlr, hyr, hbr⟩
        replace hE := hE.below hbr
        replace hx4 := hx4.below hbr
        replace hx5 := hx5.below hbr
        replace hx6 := hx6.below hbr
        replace hs := hs.below hbr
        have z_hbr := hbr.size
        replace hg := gr_step hg (grownBy_of_below hbr none) (fun k hk => by cases hk)
        have zg_hbr := hg.size
        replace hmp := hmp.below hbr
        refine w_nil ?_
        refine h_on ⟨trivial, ?_⟩
        have hNN : 2 * PN * (2 * (1 + kc).toNat) ≤ M := by
          rw [hPN, em] at hkc2
          rcases hP42 with rfl | rfl | rfl | rfl <;> omega
        have hNN1 : 1 ≤ 2 * PN * (2 * (1 + kc).toNat) := Nat.mul_pos (by omega) (by omega)
        refine h_one 10 ?_
        refine s_call2 (wn rfl) rfl rfl rfl (l02Beside_any _ _ _ _ (2 * PN) (2 * (1 + kc).toNat) _ hmp.rl hmr.rl hyp hyr (by omega) (by omega) (by omega) (by omega) (by omega) (by omega) (by omega)) ?_
        rintro _ wq ⟨x2, xs2, rfl, hm2, hl2, hy2, hbt⟩
        replace hE := hE.below hbt
        replace hx4 := hx4.below hbt
        replace hx5 := hx5.below hbt
        replace hx6 := hx6.below hbt
        replace hs := hs.below hbt
        have z_hbt := hbt.size
        replace hg := gr_step hg (grownBy_of_below hbt none) (fun k hk => by cases hk)
        have zg_hbt := hg.size
        refine w_nil ?_
        refine h_on ⟨trivial, ?_⟩
        refine h_one 11 ?_
        have hm := hm2
        refine s_storeBox (wn rfl) rfl rfl hm.sv.one hx6 (fun wsq hxN hgN => ?_)
        replace hm := hm.kept hgN (by omega)
        replace hx4 := hx4.kept hgN (by intro e; have := Option.some.inj e; omega)
        replace hx5 := hx5.kept hgN (by intro e; have := Option.some.inj e; omega)
        replace hE := hE.apart2 hEv hgN (fun g e => .inr (by have := Option.some.inj e; omega))
        replace hs := hs.kept hgN (fun k hk => by cases hk; exact ⟨by have := hs.low; omega, by omega⟩)
        replace hg := gr_step hg hgN (fun k hk => by cases hk; omega)
        have zsq := hgN.size
        replace hx6 := hxN
        clear hxN
        refine w_nil ?_
        refine h_on ⟨trivial, ?_⟩
        refine h_nil ?_
        refine go2 ?_
        exact ⟨_, _, 2 * PN * (2 * (1 + kc).toNat), _, rfl, rfl, rfl, rfl, rfl, hx6, hm.top, by omega, by omega, by omega, hy2, hE, hx4, hx5, hs, hg⟩
    · refine go2 ?_
      refine s_call2 (wn rfl) rfl rfl rfl (l01Next_any q (most / 4) B c bs _ hs (by omega)) ?_
      rintro _ wnb ⟨kb, rfl, _, hkb, hsb, hgb⟩
      replace hx4 := hx4.kept hgb (by intro e; have := Option.some.inj e; omega)
      replace hx5 := hx5.kept hgb (by intro e; have := Option.some.inj e; omega)
      replace hx6 := hx6.kept hgb (by intro e; have := Option.some.inj e; omega)
      replace hE := hE.kept hgb (by omega)
      replace hs := hsb
      replace hg := grownBy_trans hg hgb
      have zg_hgb := hg.size
      have z_hgb := hgb.size
      have hkb2 := hkb (by omega)
      refine go2 ?_
      refine s_call2 (wn rfl) rfl rfl rfl (l02Map_any (1 + kb) q B c bs (1 + kb).toNat _ (by omega) (by omega) (by omega) hs) ?_
      rintro _ wm ⟨xm, xsm, Nm, rfl, hm, hlm, hNm, hym, hsm, hgm⟩
      replace hx4 := hx4.kept hgm (by intro e; have := Option.some.inj e; omega)
      replace hx5 := hx5.kept hgm (by intro e; have := Option.some.inj e; omega)
      replace hx6 := hx6.kept hgm (by intro e; have := Option.some.inj e; omega)
      replace hE := hE.kept hgm (by omega)
      replace hs := hsm
      replace hg := grownBy_trans hg hgm
      have zg_hgm := hg.size
      have z_hgm := hgm.size
      refine s_storeBox (wn rfl) rfl rfl hm.sv.one hx6 (fun wsm hxN hgN => ?_)
      replace hm := hm.kept hgN (by omega)
      replace hx4 := hx4.kept hgN (by intro e; have := Option.some.inj e; omega)
      replace hx5 := hx5.kept hgN (by intro e; have := Option.some.inj e; omega)
      replace hE := hE.apart2 hEv hgN (fun g e => .inr (by have := Option.some.inj e; omega))
      replace hs := hs.kept hgN (fun k hk => by cases hk; exact ⟨by have := hs.low; omega, by omega⟩)
      replace hg := gr_step hg hgN (fun k hk => by cases hk; omega)
      have zsm := hgN.size
      replace hx6 := hxN
      clear hxN
      refine go2 ?_
      exact ⟨_, _, Nm, _, rfl, rfl, rfl, rfl, rfl, hx6, hm.top, by omega, by omega, by omega, hym, hE, hx4, hx5, hs, hg⟩
  clear hE hx4 hx5 hx6 hs hg
  rintro fr wj ⟨x, xss, N, B3, f0, f1, f4, f5, f6, hx6, hm, hB3, hxl, hN, hy, hE, hx4, hx5, hs, hg⟩
  refine know (t := 0) f0 ?_; refine know (t := 1) f1 ?_; refine know (t := 4) f4 ?_; refine know (t := 5) f5 ?_; refine know (t := 6) f6 ?_
  refine go2 ?_
  refine w_loop (fun kk fr w' => ∃ (x : Value) (xss : List (List Int)) (N B3 : Nat), kk = 5 - xss.length ∧ fr 0 = .pointer (some ⟨q, 0, none⟩) ∧ fr 1 = .int .i64 most ∧ fr 4 = .pointer (some p4) ∧ fr 5 = .pointer (some p5) ∧ fr 6 = .pointer (some p6) ∧ Bx w' w.heap.size p6 28 x ∧ OM w' B3 w'.heap.size 40 2 x xss ∧ p6.block < B3 ∧ (1 ≤ xss.length ∧ xss.length ≤ 5) ∧ (1 ≤ N ∧ N ≤ M) ∧ Syst N xss ∧ OM w' w1.heap.size E1 40 2 ev [[1, 0]] ∧ Bx w' w.heap.size p4 28 (.slice none 0 0) ∧ Bx w' w.heap.size p5 28 ev ∧ Sr w' B q 140 c bs ∧ w.grownBy w' (some q)) (5 - xss.length)
    ⟨x, xss, N, B3, rfl, rfl, rfl, rfl, rfl, rfl, hx6, hm, hB3, hxl, hN, hy, hE, hx4, hx5, hs, hg⟩ ?_
  clear hE hx4 hx5 hx6 hs hg hm hy hN hxl hB3 f0 f1 f4 f5 f6
  rintro kk fr wl ⟨x, xss, N, B3, rfl, f0, f1, f4, f5, f6, hx6, hm, hB3, hxl, hN, hy, hE, hx4, hx5, hs, hg⟩
  refine know (t := 0) f0 ?_; refine know (t := 1) f1 ?_; refine know (t := 4) f4 ?_; refine know (t := 5) f5 ?_; refine know (t := 6) f6 ?_
  have hc6 := hx6.cell
  have hc5 := hx5.cell
  have sm := hm.sv
  have eN := hy.nf hxl.1
  have zl := hg.size
  have zl6 := hx6.lt
  by_cases l5 : (xss.length : Int) < 5
  rotate_left
  · have l5b : decide ((xss.length : Int) < 5) = !true := decide_eq_false l5
    refine go2 ?_
    refine s_storeBox (wn rfl) rfl rfl hm.sv.one hx4 (fun wz hxz hgz => ?_)
    have hmz := hm.kept hgz (by omega)
    have hsz := hs.kept hgz (fun k hk => by cases hk; exact ⟨by have := hs.low; omega, by omega⟩)
    have zz := hgz.size
    refine go2 ?_
    exact end_cell Try.results190 rfl hxz.cell ⟨x, xss, N, rfl, (hmz.mono (by omega)).top, hxl, hN, hy, hsz, gr_step hg hgz (fun k hk => by cases hk; omega)⟩
  have l5t : decide ((xss.length : Int) < 5) = true := decide_eq_true l5
  refine go2 ?_
  refine s_call1 (wy rfl rfl rfl rfl rfl known) rfl rfl (l02Flags_any _ _ _ hm.rl hxl.1) ?_
  rintro _ wf ⟨rfl, hbf⟩
  rw [eN]
  replace hm := hm.below hbf
  replace hE := hE.below hbf
  replace hx4 := hx4.below hbf
  replace hx5 := hx5.below hbf
  replace hx6 := hx6.below hbf
  replace hs := hs.below hbf
  have z_hbf := hbf.size
  replace hg := gr_step hg (grownBy_of_below hbf none) (fun k hk => by cases hk)
  have zg_hbf := hg.size
  have hc6 := hx6.cell
  have hc5 := hx5.cell
  refine go2 ?_
  refine s_p (wy rfl rfl rfl rfl rfl known) rfl (y_mul rfl rfl (by constructor <;> omega)) ?_
  by_cases l6 : (N : Int) * 2 ≤ most
  rotate_left
  · have l6b : decide ((N : Int) * 2 ≤ most) = !true := decide_eq_false l6
    refine go2 ?_
    refine s_storeBox (wn rfl) rfl rfl hm.sv.one hx4 (fun wz hxz hgz => ?_)
    have hmz := hm.kept hgz (by omega)
    have hsz := hs.kept hgz (fun k hk => by cases hk; exact ⟨by have := hs.low; omega, by omega⟩)
    have zz := hgz.size
    refine go2 ?_
    exact end_cell Try.results190 rfl hxz.cell ⟨x, xss, N, rfl, (hmz.mono (by omega)).top, hxl, hN, hy, hsz, gr_step hg hgz (fun k hk => by cases hk; omega)⟩
  have l6t : decide ((N : Int) * 2 ≤ most) = true := decide_eq_true l6
  refine go2 ?_
  refine s_call2 (wy rfl rfl rfl rfl rfl known) rfl rfl rfl (l01Next_any q 3 B c bs _ hs (by omega)) ?_
  rintro _ wne ⟨ke, rfl, _, hke, hse, hge⟩
  replace hm := hm.kept hge (by omega)
  replace hm := hm.top
  replace hx4 := hx4.kept hge (by intro e; have := Option.some.inj e; omega)
  replace hx5 := hx5.kept hge (by intro e; have := Option.some.inj e; omega)
  replace hx6 := hx6.kept hge (by intro e; have := Option.some.inj e; omega)
  replace hE := hE.kept hge (by omega)
  replace hs := hse
  replace hg := grownBy_trans hg hge
  have zg_hge := hg.size
  have z_hge := hge.size
  have hc6 := hx6.cell
  have hc5 := hx5.cell
  by_cases l7 : ke = 0
  rotate_left
  · have l7b : decide (ke = 0) = !true := decide_eq_false l7
    refine go2 ?_
    refine s_storeBox (wn rfl) rfl rfl hm.sv.one hx4 (fun wz hxz hgz => ?_)
    have hmz := hm.kept hgz (by omega)
    have hsz := hs.kept hgz (fun k hk => by cases hk; exact ⟨by have := hs.low; omega, by omega⟩)
    have zz := hgz.size
    refine go2 ?_
    exact end_cell Try.results190 rfl hxz.cell ⟨x, xss, N, rfl, (hmz.mono (by omega)).top, hxl, hN, hy, hsz, gr_step hg hgz (fun k hk => by cases hk; omega)⟩
  have l7t : decide (ke = 0) = true := decide_eq_true l7
  refine go2 ?_
  refine s_call2 (wn rfl) rfl rfl rfl (l01Next_any q 2 B c bs _ hs (by omega)) ?_
  rintro _ wng ⟨kg, rfl, _, hkg, hsg, hgg⟩
  replace hm := hm.kept hgg (by omega)
  replace hm := hm.top
  replace hx4 := hx4.kept hgg (by intro e; have := Option.some.inj e; omega)
  replace hx5 := hx5.kept hgg (by intro e; have := Option.some.inj e; omega)
  replace hx6 := hx6.kept hgg (by intro e; have := Option.some.inj e; omega)
  replace hE := hE.kept hgg (by omega)
  replace hs := hsg
  replace hg := grownBy_trans hg hgg
  have zg_hgg := hg.size
  have z_hgg := hgg.size
  have hc6 := hx6.cell
  have hc5 := hx5.cell
  by_cases l8 : kg = 0
  · refine go2 ?_
    refine s_call2 (wn rfl) rfl rfl rfl (l02Beside_any _ _ _ _ N 2 _ hm.rl hE.rl hy hEs (by omega) (by decide) (by omega) (by decide) (by omega) (by omega) (by decide)) ?_
    rintro _ wq ⟨x2, xs2, rfl, hm2, hl2, hy2, hbt⟩
    have hl21 : ([[1, 0]] : List (List Int)).length = 1 := rfl
    replace hE := hE.below hbt
    replace hx4 := hx4.below hbt
    replace hx5 := hx5.below hbt
    replace hx6 := hx6.below hbt
    replace hs := hs.below hbt
    have z_hbt := hbt.size
    replace hg := gr_step hg (grownBy_of_below hbt none) (fun k hk => by cases hk)
    have zg_hbt := hg.size
    replace hm := hm2
    refine s_storeBox (wn rfl) rfl rfl hm.sv.one hx6 (fun wsq hxN hgN => ?_)
    replace hm := hm.kept hgN (by omega)
    replace hx4 := hx4.kept hgN (by intro e; have := Option.some.inj e; omega)
    replace hx5 := hx5.kept hgN (by intro e; have := Option.some.inj e; omega)
    replace hE := hE.apart2 hEv hgN (fun g e => .inr (by have := Option.some.inj e; omega))
    replace hs := hs.kept hgN (fun k hk => by cases hk; exact ⟨by have := hs.low; omega, by omega⟩)
    replace hg := gr_step hg hgN (fun k hk => by cases hk; omega)
    have zsq := hgN.size
    replace hx6 := hxN
    clear hxN
    refine go2 ?_
    exact ⟨5 - xs2.length, by omega, _, _, N * 2, _, rfl, rfl, rfl, rfl, rfl, rfl, hx6, hm.top, by omega, by omega, by omega, hy2, hE, hx4, hx5, hs, hg⟩
  · refine go2 ?_
    refine s_call2 (wn rfl) rfl rfl rfl (l02Beside_any _ _ _ _ 2 N _ hE.rl hm.rl hEs hy (by decide) (by omega) (by decide) (by omega) (by omega) (by decide) (by omega)) ?_
    rintro _ wq ⟨x2, xs2, rfl, hm2, hl2, hy2, hbt⟩
    have hl21 : ([[1, 0]] : List (List Int)).length = 1 := rfl
    replace hE := hE.below hbt
    replace hx4 := hx4.below hbt
    replace hx5 := hx5.below hbt
    replace hx6 := hx6.below hbt
    replace hs := hs.below hbt
    have z_hbt := hbt.size
    replace hg := gr_step hg (grownBy_of_below hbt none) (fun k hk => by cases hk)
    have zg_hbt := hg.size
    replace hm := hm2
    refine s_storeBox (wn rfl) rfl rfl hm.sv.one hx6 (fun wsq hxN hgN => ?_)
    replace hm := hm.kept hgN (by omega)
    replace hx4 := hx4.kept hgN (by intro e; have := Option.some.inj e; omega)
    replace hx5 := hx5.kept hgN (by intro e; have := Option.some.inj e; omega)
    replace hE := hE.apart2 hEv hgN (fun g e => .inr (by have := Option.some.inj e; omega))
    replace hs := hs.kept hgN (fun k hk => by cases hk; exact ⟨by have := hs.low; omega, by omega⟩)
    replace hg := gr_step hg hgN (fun k hk => by cases hk; omega)
    have zsq := hgN.size
    replace hx6 := hxN
    clear hxN
    refine go2 ?_
    exact ⟨5 - xs2.length, by omega, _, _, 2 * N, _, rfl, rfl, rfl, rfl, rfl, rfl, hx6, hm.top, by omega, by omega, by omega, hy2, hE, hx4, hx5, hs, hg⟩
  
end Go.Proofs.Ytlodnhflfijomaa
