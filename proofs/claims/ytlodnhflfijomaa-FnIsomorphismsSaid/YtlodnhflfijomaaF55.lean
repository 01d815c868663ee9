/- Contracts: a maniplex drawn, its flags renumbered or not. -/
import Derived.Test.YtlodnhflfijomaaF54
namespace Go.Proofs.Ytlodnhflfijomaa
open Go.Mem Go.RowKit
set_option linter.unusedVariables false
set_option linter.unusedSimpArgs false

set_option maxHeartbeats 8000000 in
set_option maxRecDepth 100000 in
theorem l02Draw_any (q B : Nat) (c : Value) (bs : List Int) (most : Int) (M : Nat) (w : World) (em : most = M) (h1 : 8 ≤ M) (hM : M ≤ 400) (hs : Sr w B q 140 c bs) :
    Ret Try.prog 150 #[.pointer (some ⟨q, 0, none⟩), .int .i64 most] w fun r w' => ∃ x xss, ∃ N : Nat, r = .agg #[x] ∧ OM w' w.heap.size w'.heap.size 40 2 x xss ∧ (1 ≤ xss.length ∧ xss.length ≤ 5) ∧ (1 ≤ N ∧ N ≤ M) ∧ Syst N xss ∧ Sr w' B q 140 c bs ∧ w.grownBy w' (some q) := by
  have hql := hs.lt
  refine enter2 19 Try.func150 rfl Try.ntmps150 rfl (fun fr => ?_)
  refine go2 ?_
  refine s_alloc (B := w.heap.size) (wn rfl) rfl (Nat.le_refl _) (fun w1 p4 hx4 hg1 hp4 => ?_)
  have hb1 := below_of_grownBy hg1
  have z1 := hb1.size
  have hlt4 := hx4.lt
  replace hs := hs.below hb1
  have hg := grownBy_of_below hb1 (some q)
  refine go2 ?_
  refine s_call2 (wn rfl) rfl rfl rfl (l02Any_any q B c bs most M _ em h1 hM hs) ?_
  rintro _ w2 ⟨x, xss, N, rfl, hm, hxl, hN, hy, hs2, hg2⟩
  replace hs := hs2
  replace hx4 := hx4.kept hg2 (by intro e; have := Option.some.inj e; omega)
  replace hg := grownBy_trans hg hg2
  have z2 := hg2.size
  have hxv := fun g h => (hm.ownlt g h).2
  obtain ⟨E, hE⟩ : ∃ E, E = w2.heap.size := ⟨_, rfl⟩
  rw [← hE] at hm hxv
  refine go2 ?_
  refine s_alloc (B := w.heap.size) (wn rfl) rfl (by omega) (fun w3 p5 hx5 hg3 hp5 => ?_)
  have hb3 := below_of_grownBy hg3
  have z3 := hb3.size
  have hlt5 := hx5.lt
  replace hs := hs.below hb3
  replace hm := hm.below hb3
  replace hx4 := hx4.below hb3
  replace hg := gr_step hg hg3 (fun k hk => by cases hk)
  refine go2 ?_
  refine s_storeBox (wn rfl) rfl rfl hm.sv.one hx5 (fun w4 hx5N hg4 => ?_)
  have z4 := hg4.size
  replace hx5 := hx5N
  replace hx4 := hx4.kept hg4 (by intro e; have := Option.some.inj e; omega)
  replace hm := hm.apart2 hxv hg4 (fun g e => .inr (by have := Option.some.inj e; omega))
  replace hs := hs.kept hg4 (fun k hk => by cases hk; exact ⟨by have := hs.low; omega, by omega⟩)
  replace hg := gr_step hg hg4 (fun k hk => by cases hk; omega)
  refine go2 ?_
  refine s_call2 (wn rfl) rfl rfl rfl (l01Next_any q 4 B c bs _ hs (by omega)) ?_
  rintro _ w5 ⟨k, rfl, _, hk, hs5, hg5⟩
  replace hs := hs5
  replace hx4 := hx4.kept hg5 (by intro e; have := Option.some.inj e; omega)
  replace hx5 := hx5.kept hg5 (by intro e; have := Option.some.inj e; omega)
  replace hm := hm.kept hg5 (by omega)
  replace hg := grownBy_trans hg hg5
  have z5 := hg5.size
  have hc5 := hx5.cell
  have sm := hm.sv
  refine go2 ?_
  refine cond_dec rfl (fun hpos => ?_) (fun hneg => ?_)
  · refine go2 ?_
    refine region_hS (fun w' => w'.cell? p5 = some x) mixed (fun wr cr => ?_)
    have zr := cr.size
    replace hs := hs.below cr
    replace hm := hm.below cr
    replace hx4 := hx4.below cr
    replace hx5 := hx5.below cr
    replace hg := gr_step hg (grownBy_of_below cr none) (fun k hk => by cases hk)
    refine h_p 0 hx5.cell ?_ (hrun := fun _ h => y_ldbox rfl h)
    refine h_p 1 hx5.cell ?_ (hrun := fun _ _ => yl)
    refine h_p 2 hx5.cell ?_ (hrun := fun _ h => y_ldbox rfl h)
    refine h_one 3 ?_
    refine s_call1 (wn rfl) rfl rfl (l02Flags_any _ _ _ hm.rl hxl.1) ?_
    rintro _ w6 ⟨rfl, hb6⟩
    rw [hy.nf hxl.1]
    have z6 := hb6.size
    replace hs := hs.below hb6
    replace hm := hm.below hb6
    replace hx4 := hx4.below hb6
    replace hx5 := hx5.below hb6
    replace hg := gr_step hg (grownBy_of_below hb6 none) (fun k hk => by cases hk)
    refine w_nil ?_
    refine h_on ⟨hx5.cell, ?_⟩
    refine h_one 4 ?_
    refine s_call2 (wn rfl) rfl rfl rfl (l01Draw_any q B c bs (N : Int) N _ rfl (by omega) hs) ?_
    rintro pv w7 ⟨ps, hp, hpl, hpr, hs7, hg7⟩
    have z7 := hg7.size
    replace hs := hs7
    replace hx4 := hx4.kept hg7 (by intro e; have := Option.some.inj e; omega)
    replace hx5 := hx5.kept hg7 (by intro e; have := Option.some.inj e; omega)
    replace hm := hm.kept hg7 (by omega)
    replace hg := grownBy_trans hg hg7
    refine w_nil ?_
    refine h_on ⟨hx5.cell, ?_⟩
    refine h_one 5 ?_
    refine s_call2 (wn rfl) rfl rfl rfl (l02RenumberS_any _ _ _ _ N _ hm.rl hp.il hy hxl.1 (by omega) (by omega) hpl (fun y h0 h2 => hpr _ (gi_mem h0 (by omega)))) ?_
    rintro _ w8 ⟨x2, rfl, hm2, hb8⟩
    have z8 := hb8.size
    replace hs := hs.below hb8
    replace hx4 := hx4.below hb8
    replace hx5 := hx5.below hb8
    replace hg := gr_step hg (grownBy_of_below hb8 none) (fun k hk => by cases hk)
    refine w_nil ?_
    refine h_on ⟨hx5.cell, ?_⟩
    refine h_one 6 ?_
    refine s_storeBox (wn rfl) rfl rfl hm2.sv.one hx4 (fun wz hxz hgz => ?_)
    have hm3 := hm2.kept hgz (by omega)
    have hx5z := hx5.kept hgz (by intro e; have := Option.some.inj e; omega)
    have hsz := hs.kept hgz (fun k hk => by cases hk; exact ⟨by have := hs.low; omega, by omega⟩)
    have zz := hgz.size
    refine w_nil ?_
    refine h_on ⟨hx5z.cell, ?_⟩
    refine h_nil ?_
    refine go2 ?_
    exact end_cell Try.results150 rfl hxz.cell ⟨x2, _, N, rfl, (hm3.mono (by omega)).top, by simpa [ren] using hxl, hN, hy.ren hpl hpr, hsz, gr_step hg hgz (fun k hk => by cases hk; omega)⟩
  · refine go2 ?_
    refine s_storeBox (wn rfl) rfl rfl sm.one hx4 (fun wz hxz hgz => ?_)
    have hm3 := hm.kept hgz (by omega)
    have hsz := hs.kept hgz (fun k hk => by cases hk; exact ⟨by have := hs.low; omega, by omega⟩)
    have zz := hgz.size
    refine go2 ?_
    exact end_cell Try.results150 rfl hxz.cell ⟨x, _, N, rfl, ((hm3.mono (by omega)).wide (by omega)), hxl, hN, hy, hsz, gr_step hg hgz (fun k hk => by cases hk; omega)⟩

end Go.Proofs.Ytlodnhflfijomaa
