/- Contracts: draws of a maniplex by l02Spoil. -/
import Derived.Test.YtmdimdbfgibflaaFI
import Derived.Test.YtmdimdbfgibflaaF70
namespace Go.Proofs.Ytmdimdbfgibflaa
open Go.Mem Go.RowKit
set_option linter.unusedVariables false
set_option linter.unusedSimpArgs false

set_option maxHeartbeats 8000000 in
set_option maxRecDepth 100000 in
theorem DrawExtendManiplex_any (c : Value) (bs : List Int) (w : World) (hcl : CL w c bs) :
    Ret Try.prog 29 #[c] w fun r w' => ∃ x xss, r = .agg #[x] ∧ RL w' x xss ∧ Below w.heap.size w w' := by
  have sc := hcl.sv
  refine enter1 11 Try.func29 rfl Try.ntmps29 rfl (fun fr => ?_)
  refine go2 ?_
  refine s_alloc (B := w.heap.size) (wn rfl) rfl (Nat.le_refl _) (fun w0 p2 hx2 hg0 hp2 => ?_)
  have hb0 := below_of_grownBy hg0
  have z0 := hb0.size
  have hlt2 := hx2.lt
  refine go2 ?_
  refine s_call1 (wn rfl) rfl rfl (l01From_any c bs _ (hcl.below hb0)) ?_
  rintro _ v0 ⟨q, rfl, hs, hbf⟩
  have zf := hbf.size
  have hql := hs.lt
  have hq1 := hs.low
  replace hx2 := hx2.below hbf
  obtain ⟨B, hBe⟩ : ∃ B, B = w0.heap.size := ⟨_, rfl⟩
  rw [← hBe] at hs
  have hB1 := hb0.trans (hbf.mono z0)
  refine go2 ?_
  refine s_buildI (B := v0.heap.size) [40, 40, 400] (wn rfl) rfl rfl rfl rfl (by omega) (fun tb v1 ht st hga _ => ?_)
  have hba := below_of_grownBy hga
  have zv1 := hba.size
  replace hs := hs.below hba
  replace hx2 := hx2.below hba
  have hg := gr_step (grownBy_of_below (Below.refl _ _) (some q)) (grownBy_of_below hba none) (fun k hk => by cases hk)
  clear hba hga
  refine go2 ?_
  refine s_call2 (wn rfl) rfl rfl rfl (l01Pick_any q B c bs _ _ v0.heap.size _ ht hql (by simp) (by simp) hs) ?_
  rintro _ v2 ⟨z, hz, rfl, hs', hgq⟩
  have zv2 := hgq.size
  replace hs := hs'
  replace hx2 := hx2.kept hgq (by intro e; have := Option.some.inj e; omega)
  replace ht := ht.kept hgq (ht.apart_blk (by omega))
  replace hg := grownBy_trans hg hgq
  clear hgq
  have hzz : z = 40 ∨ z = 400 := by simp at hz; omega
  refine go2 ?_
  refine s_call2 (wn rfl) rfl rfl rfl (l02Spoil_any q B c bs z z.toNat _ (by omega) (by omega) (by omega) hs) ?_
  rintro _ v3 ⟨x, xss, rfl, hm, _, _, hs', hgq⟩
  have zv3 := hgq.size
  replace hs := hs'
  replace hx2 := hx2.kept hgq (by intro e; have := Option.some.inj e; omega)
  replace ht := ht.kept hgq (ht.apart_blk (by omega))
  replace hg := grownBy_trans hg hgq
  clear hgq
  refine go2 ?_
  refine s_storeBox (wn rfl) rfl rfl hm.sv.one hx2 (fun v4 hxz hgz => ?_)
  have hmz := hm.box hx2 (by decide) (by decide) hgz
  have hB2 := hB1.trans (gr_below hg hB1.size (by omega))
  have hB3 := hB2.trans (hx2.below_of hgz hB2.size)
  refine go2 ?_
  exact end_cell Try.results29 rfl hxz.cell ⟨x, _, rfl, hmz.rl, hB3⟩

set_option maxHeartbeats 8000000 in
set_option maxRecDepth 100000 in
theorem DrawDualOf_any (c : Value) (bs : List Int) (w : World) (hcl : CL w c bs) :
    Ret Try.prog 56 #[c] w fun r w' => ∃ x xss, r = .agg #[x] ∧ RL w' x xss ∧ Below w.heap.size w w' := by
  have sc := hcl.sv
  refine enter1 6 Try.func56 rfl Try.ntmps56 rfl (fun fr => ?_)
  refine go2 ?_
  refine s_alloc (B := w.heap.size) (wn rfl) rfl (Nat.le_refl _) (fun w0 p2 hx2 hg0 hp2 => ?_)
  have hb0 := below_of_grownBy hg0
  have z0 := hb0.size
  have hlt2 := hx2.lt
  refine go2 ?_
  refine s_call1 (wn rfl) rfl rfl (l01From_any c bs _ (hcl.below hb0)) ?_
  rintro _ v0 ⟨q, rfl, hs, hbf⟩
  have zf := hbf.size
  have hql := hs.lt
  have hq1 := hs.low
  replace hx2 := hx2.below hbf
  obtain ⟨B, hBe⟩ : ∃ B, B = w0.heap.size := ⟨_, rfl⟩
  rw [← hBe] at hs
  have hB1 := hb0.trans (hbf.mono z0)
  refine go2 ?_
  refine s_call2 (wn rfl) rfl rfl rfl (l02Spoil_any q B c bs 60 60 _ rfl (by omega) (by omega) hs) ?_
  rintro _ v1 ⟨x, xss, rfl, hm, _, _, hs', hgq⟩
  have zv1 := hgq.size
  replace hs := hs'
  replace hx2 := hx2.kept hgq (by intro e; have := Option.some.inj e; omega)
  have hg := hgq
  clear hgq
  refine go2 ?_
  refine s_storeBox (wn rfl) rfl rfl hm.sv.one hx2 (fun v2 hxz hgz => ?_)
  have hmz := hm.box hx2 (by decide) (by decide) hgz
  have hB2 := hB1.trans (gr_below hg hB1.size (by omega))
  have hB3 := hB2.trans (hx2.below_of hgz hB2.size)
  refine go2 ?_
  exact end_cell Try.results56 rfl hxz.cell ⟨x, _, rfl, hmz.rl, hB3⟩

end Go.Proofs.Ytmdimdbfgibflaa
