/- Contracts: draws of words; two maniplexes and a number. -/
import Derived.Test.YtmdimdbfgibflaaF86
import Derived.Test.YtmdimdbfgibflaaF81
namespace Go.Mem
/-- three results, the first two of which lie in variables -/
theorem end_cell23 {P : Program} {fn : Func} {R : Value → World → Prop} {n t s q : Nat} {f : Fm} {w : World} {ty ty2 : TypeId} {p p2 : Addr} {u u2 v : Value} [hb : BoxTy P ty] [hb2 : BoxTy P ty2] (h : fn.results = #[.cell t ty, .cell s ty2, .tmp q])
    (hv : lk n f (.tmp t) = some (.pointer (some p))) (hs : lk n f (.tmp s) = some (.pointer (some p2))) (hq : lk n f (.tmp q) = some v) (hc : w.cell? p = some u) (hc2 : w.cell? p2 = some u2) (hR : R (.tuple #[.agg #[u], .agg #[u2], v]) w) : endPost P fn n R .ret f w := by
  have e (t : Nat) : (act n f.fn).tmps[t]?.getD undef = evo n f (.tmp t) := by rw [← act_eval]; simp [Act.eval]
  refine ⟨.tuple #[.agg #[u], .agg #[u2], v], ?_, hR⟩
  simp [results, h, e, lk_evo hv, lk_evo hs, lk_evo hq, asAddr, loadVar, hb.agg, hb.size, hb2.agg, hb2.size, loadCells, loadCellsFrom, Addr.add_zero', hc, hc2]
end Go.Mem
namespace Go.Proofs.Ytmdimdbfgibflaa
open Go.Mem Go.RowKit
set_option linter.unusedVariables false
set_option linter.unusedSimpArgs false

set_option maxHeartbeats 8000000 in
set_option maxRecDepth 100000 in
theorem l05DrawWord_any (q B : Nat) (c : Value) (bs : List Int) (n most : Int) (M : Nat) (w : World) (hN : n ≤ 1000000) (em : most = M) (hM : M ≤ 100) (hs : Sr w B q 115 c bs) :
    Ret Try.prog 65 #[.pointer (some ⟨q, 0, none⟩), .int .i64 n, .int .i64 most] w fun r w' => ∃ wd : List Int, OI w' w.heap.size 2 r wd ∧ wd.length ≤ M ∧ Sr w' B q 115 c bs ∧ w.grownBy w' (some q) := by
  subst em
  have hql := hs.lt
  refine enter3 25 Try.func65 rfl Try.ntmps65 rfl (fun fr => ?_)
  refine go2 ?_
  refine s_build0 (B := w.heap.size) (wn rfl) rfl (Nat.le_refl _) (fun ob w1 ho so hg1 _ => ?_)
  have hb1 := below_of_grownBy hg1
  have z1 := hb1.size
  replace hs := hs.below hb1
  refine go2 ?_
  refine s_call2 (wn rfl) rfl rfl rfl (l01Next_any q ((M : Int) + 1) B c bs _ hs (by omega)) ?_
  rintro _ w2 ⟨k, rfl, _, hk, hs2, hg2⟩
  have hk' := hk (by omega)
  have hg : w.grownBy w2 (some q) := grownBy_trans (grownBy_of_below hb1 _) hg2
  replace ho := ho.kept hg2 (ho.apart_blk (by omega))
  refine go2 ?_
  refine w_loop (fun kk fr w' => ∃ (i : Nat) (ob : Value) (wd : List Int), kk = k.toNat - i ∧ i ≤ k.toNat ∧ fr 0 = .pointer (some ⟨q, 0, none⟩) ∧ fr 1 = .int .i64 n ∧ fr 7 = ob ∧ fr 8 = .int .i64 (k - i) ∧
      OI w' w.heap.size 2 ob wd ∧ wd.length = i ∧ Sr w' B q 115 c bs ∧ w.grownBy w' (some q)) k.toNat
    ⟨0, ob, [], rfl, Nat.zero_le _, rfl, rfl, rfl, by show Value.int _ _ = _; congr 1; omega, ho, rfl, hs2, hg⟩ ?_
  clear ho hs hs2 hg hg2
  rintro kk fr w3 ⟨i, ob, wd, rfl, hi, f0, f1, f7, f8, ho, hl, hs, hg⟩
  have so := ho.sv
  have z3 := hg.size
  refine know (t := 0) f0 ?_; refine know (t := 1) f1 ?_; refine know (t := 7) f7 ?_; refine know (t := 8) f8 ?_
  refine go2 ?_
  refine cond_dec rfl (fun hlt => ?_) (fun hge => ?_)
  · refine go2 ?_
    refine s_call2 (wn rfl) rfl rfl rfl (l01Next_any q n B c bs _ hs (by omega)) ?_
    rintro _ w4 ⟨y, rfl, _, hy, hs4, hg4⟩
    replace ho := ho.kept hg4 (ho.apart_blk (by omega))
    have hgA := grownBy_trans hg hg4
    have z4 := hg4.size
    refine go2 ?_
    refine s_build1 (B := w.heap.size) (wn rfl) rfl rfl (by omega) (fun tb w5 ht st hg5 _ => ?_)
    have hb5 := below_of_grownBy hg5
    have z5 := hb5.size
    replace ho := ho.below hb5
    have hs5 := hs4.below hb5
    have hgB := gr_step hgA (grownBy_of_below hb5 none) (fun k hk => by cases hk)
    refine s_appendI (wn rfl) rfl rfl rfl ho ht.il (by simp; omega) (by omega) (fun ob' w6 ho6 so6 hg6 _ => ?_)
    have hs6 := hs5.kept hg6 (fun k hk => by have := (ho.lt k hk).1; have := hs5.low; omega)
    have hgC := gr_step hgB hg6 (fun k hk => (ho.lt k hk).1)
    refine go2 ?_
    exact ⟨k.toNat - (i + 1), by omega, i + 1, ob', _, rfl, by omega, rfl, rfl, rfl, by show Value.int _ _ = _; congr 1; omega, ho6, by simp [hl], hs6, hgC⟩
  · refine go2 ?_
    exact end_one Try.results65 rfl ⟨wd, ho, by omega, hs, hg⟩

set_option maxHeartbeats 8000000 in
set_option maxRecDepth 100000 in
theorem DrawWordPeriod_any (c : Value) (bs : List Int) (w : World) (hcl : CL w c bs) :
    Ret Try.prog 53 #[c] w fun r w' => ∃ x xss y wd, r = .tuple #[.agg #[x], y] ∧ RL w' x xss ∧ IL w' y wd ∧ Below w.heap.size w w' := by
  have sc := hcl.sv
  refine enter1 32 Try.func53 rfl Try.ntmps53 rfl (fun fr => ?_)
  refine go2 ?_
  refine s_alloc (B := w.heap.size) (wn rfl) rfl (Nat.le_refl _) (fun w0 p2 hx2 hg0 hp2 => ?_)
  have hb0 := below_of_grownBy hg0
  have z0 := hb0.size
  have hlt2 := hx2.lt
  refine go2 ?_
  refine s_call1 (wn rfl) rfl rfl (l01From_any c bs _ (hcl.below hb0)) ?_
  rintro _ v0 ⟨q, rfl, hs, hbf⟩
  have zf := hbf.size
  have hql := hs.lt
  have hq1 := hs.low
  replace hx2 := hx2.below hbf
  obtain ⟨B, hBe⟩ : ∃ B, B = w0.heap.size := ⟨_, rfl⟩
  rw [← hBe] at hs
  have hB1 := hb0.trans (hbf.mono z0)
  refine go2 ?_
  refine s_buildI (B := v0.heap.size) [40, 40, 200] (wn rfl) rfl rfl rfl rfl (by omega) (fun tb v1 ht st hga _ => ?_)
  have hba := below_of_grownBy hga
  have zv1 := hba.size
  replace hs := hs.below hba
  replace hx2 := hx2.below hba
  have hg := gr_step (grownBy_of_below (Below.refl _ _) (some q)) (grownBy_of_below hba none) (fun k hk => by cases hk)
  clear hba hga
  refine go2 ?_
  refine s_call2 (wn rfl) rfl rfl rfl (l01Pick_any q B c bs _ _ v0.heap.size _ ht hql (by simp) (by simp) hs) ?_
  rintro _ v2 ⟨z, hz, rfl, hs', hgq⟩
  have zv2 := hgq.size
  replace hs := hs'
  replace hx2 := hx2.kept hgq (by intro e; have := Option.some.inj e; omega)
  replace ht := ht.kept hgq (ht.apart_blk (by omega))
  replace hg := grownBy_trans hg hgq
  clear hgq
  have hzz : z = 40 ∨ z = 200 := by simp at hz; omega
  refine go2 ?_
  refine s_call2 (wn rfl) rfl rfl rfl (l02Spoil_any q B c bs z z.toNat _ (by omega) (by omega) (by omega) hs) ?_
  rintro _ v3 ⟨x, xss, rfl, hm, hxl, hxr, hs', hgq⟩
  have zv3 := hgq.size
  replace hs := hs'
  replace hx2 := hx2.kept hgq (by intro e; have := Option.some.inj e; omega)
  replace hg := grownBy_trans hg hgq
  clear hgq
  refine go2 ?_
  refine s_alloc (B := v0.heap.size) (wn rfl) rfl (by first | exact Nat.le_refl _ | omega) (fun v4 p5 hx5 hga hpp5 => ?_)
  have hba := below_of_grownBy hga
  have zv4 := hba.size
  replace hs := hs.below hba
  replace hx2 := hx2.below hba
  replace hm := hm.below hba
  replace hg := gr_step hg (grownBy_of_below hba none) (fun k hk => by cases hk)
  clear hba hga
  have hltp5 := hx5.lt
  refine go2 ?_
  refine s_storeBox (wn rfl) rfl rfl hm.sv.one hx5 (fun v5 hxN hgp => ?_)
  have zv5 := hgp.size
  replace hs := hs.kept hgp (fun k hk => by cases hk; exact ⟨by have := hs.low; omega, by omega⟩)
  replace hx2 := hx2.kept hgp (by intro e; have := Option.some.inj e; omega)
  replace hm := hm.box hx5 (by decide) (by decide) hgp
  replace hx5 := hxN
  replace hg := gr_step hg hgp (fun k hk => by cases hk; omega)
  clear hgp
  have hc5 := hx5.cell
  have sm := hm.sv
  have hlow5 := hx5.low
  refine go2 ?_
  refine cond_dec rfl (fun e0 => ?_) (fun e0 => ?_)
  · refine go2 ?_
    refine s_build0 (B := v0.heap.size) (wn rfl) rfl (by omega) (fun ob v6 ho so hga _ => ?_)
    have hba := below_of_grownBy hga
    have zv6 := hba.size
    replace hs := hs.below hba
    replace hx2 := hx2.below hba
    replace hm := hm.below hba
    replace hx5 := hx5.below hba
    replace hg := gr_step hg (grownBy_of_below hba none) (fun k hk => by cases hk)
    clear hba hga
    refine s_storeBox (wn rfl) rfl rfl hm.sv.one hx2 (fun v7 hxz hgz => ?_)
    have hmz := hm.box hx2 (by decide) (by decide) hgz
    have hwz := ho.kept hgz (.inr (ho.own.apart_box hx2 (by decide)))
    have hB2 := hB1.trans (gr_below hg hB1.size (by omega))
    have hB3 := hB2.trans (hx2.below_of hgz hB2.size)
    refine go2 ?_
    exact end_cellT Try.results53 rfl rfl hxz.cell ⟨x, _, ob, _, rfl, hmz.rl, hwz.il, hB3⟩
  refine go2 ?_
  refine region_hS (fun w' => w'.cell? p5 = some x) mixed (fun v8 cr => ?_)
  have zv8 := cr.size
  replace hs := hs.below cr
  replace hx2 := hx2.below cr
  replace hm := hm.below cr
  replace hx5 := hx5.below cr
  replace hc5 := cell_below hc5 cr
  replace hg := gr_step hg (grownBy_of_below cr none) (fun k hk => by cases hk)
  refine h_p 0 hc5 ?_ (hrun := fun w' h => yl)
  refine h_p 1 hc5 ?_ (hrun := fun w' h => yl)
  refine h_p 2 hc5 ?_ (hrun := fun w' h => yl)
  refine h_p 3 hc5 ?_ (hrun := fun w' h => yl)
  refine h_p 7 hc5 ?_ (hrun := fun w' h => yl)
  refine h_two 4 8 ?_ ?_
  · refine s_buildI (B := v0.heap.size) [0, 0, 0, 0, 0, 0, 0, 0, 0, 0, 1] (wn rfl) rfl rfl rfl rfl (by omega) (fun ta v9 hta st hga _ => ?_)
    have hba := below_of_grownBy hga
    have zv9 := hba.size
    replace hs := hs.below hba
    replace hx2 := hx2.below hba
    replace hm := hm.below hba
    replace hx5 := hx5.below hba
    replace hc5 := cell_below hc5 hba
    replace hg := gr_step hg (grownBy_of_below hba none) (fun k hk => by cases hk)
    clear hba hga
    refine w_nil ?_
    refine h_on ⟨hc5, ?_⟩
    refine h_two 5 8 ?_ ?_
    · refine s_call2 (wn rfl) rfl rfl rfl (l01Pick_any q B c bs _ _ v0.heap.size _ hta hql (by simp) (by simp) hs) ?_
      rintro _ v10 ⟨za, hza, rfl, hs', hgq⟩
      have zv10 := hgq.size
      replace hs := hs'
      replace hx2 := hx2.kept hgq (by intro e; have := Option.some.inj e; omega)
      replace hm := hm.kept hgq (by omega)
      replace hx5 := hx5.kept hgq (by intro e; have := Option.some.inj e; omega)
      replace hc5 := cell_kept hc5 hgq (by intro e; have := Option.some.inj e; omega)
      replace hta := hta.kept hgq (hta.apart_blk (by omega))
      replace hg := grownBy_trans hg hgq
      clear hgq
      have hza' : 0 ≤ za ∧ za ≤ 1 := by simp at hza; omega
      refine w_nil ?_
      refine h_on ⟨hc5, ?_⟩
      refine h_p 6 hc5 ?_ (hrun := fun w' h => yl)
      refine h_one 8 ?_
      refine s_buildI (B := v0.heap.size) [4, 4, 8, 65] (wn rfl) rfl rfl rfl rfl (by omega) (fun tb v11 htb st hga _ => ?_)
      have hba := below_of_grownBy hga
      have zv11 := hba.size
      replace hs := hs.below hba
      replace hx2 := hx2.below hba
      replace hm := hm.below hba
      replace hx5 := hx5.below hba
      replace hc5 := cell_below hc5 hba
      replace hta := hta.below hba
      replace hg := gr_step hg (grownBy_of_below hba none) (fun k hk => by cases hk)
      clear hba hga
      refine w_nil ?_
      refine h_on ⟨hc5, ?_⟩
      refine h_one 9 ?_
      refine s_call2 (wn rfl) rfl rfl rfl (l01Pick_any q B c bs _ _ v0.heap.size _ htb hql (by simp) (by simp) hs) ?_
      rintro _ v12 ⟨zb, hzb, rfl, hs', hgq⟩
      have zv12 := hgq.size
      replace hs := hs'
      replace hx2 := hx2.kept hgq (by intro e; have := Option.some.inj e; omega)
      replace hm := hm.kept hgq (by omega)
      replace hx5 := hx5.kept hgq (by intro e; have := Option.some.inj e; omega)
      replace hc5 := cell_kept hc5 hgq (by intro e; have := Option.some.inj e; omega)
      replace hta := hta.kept hgq (hta.apart_blk (by omega))
      replace htb := htb.kept hgq (htb.apart_blk (by omega))
      replace hg := grownBy_trans hg hgq
      clear hgq
      have hzb' : 0 ≤ zb ∧ zb ≤ 65 := by simp at hzb; omega
      refine w_nil ?_
      refine h_on ⟨hc5, ?_⟩
      refine h_one 10 ?_
      refine s_call3 (wn rfl) rfl rfl rfl rfl (l05DrawWord_any q B c bs _ zb zb.toNat _ (by omega) (by omega) (by omega) hs) ?_
      rintro wv v13 ⟨wd, hw, hwl, hs', hgq⟩
      have zv13 := hgq.size
      replace hs := hs'
      replace hx2 := hx2.kept hgq (by intro e; have := Option.some.inj e; omega)
      replace hm := hm.kept hgq (by omega)
      replace hx5 := hx5.kept hgq (by intro e; have := Option.some.inj e; omega)
      replace hc5 := cell_kept hc5 hgq (by intro e; have := Option.some.inj e; omega)
      replace hta := hta.kept hgq (hta.apart_blk (by omega))
      replace htb := htb.kept hgq (htb.apart_blk (by omega))
      replace hg := grownBy_trans hg hgq
      clear hgq
      refine w_nil ?_
      refine h_on ⟨hc5, ?_⟩
      refine h_one 11 ?_
      refine s_storeBox (wn rfl) rfl rfl hm.sv.one hx2 (fun v14 hxz hgz => ?_)
      have hmz := hm.box hx2 (by decide) (by decide) hgz
      have hwz := hw.kept hgz (.inr (hw.own.apart_box hx2 (by decide)))
      have hB2 := hB1.trans (gr_below hg hB1.size (by omega))
      have hB3 := hB2.trans (hx2.below_of hgz hB2.size)
      have hc5 := cell_kept hc5 hgz (by intro e; have := Option.some.inj e; omega)
      refine w_nil ?_
      refine h_on ⟨hc5, ?_⟩
      refine h_p 12 hc5 ?_ (hrun := fun w' h => yl)
      refine h_nil ?_
      refine go2 ?_
      exact end_cellT Try.results53 rfl rfl hxz.cell ⟨x, _, wv, _, rfl, hmz.rl, hwz.il, hB3⟩
    · refine s_buildI (B := v0.heap.size) [4, 4, 8, 65] (wn rfl) rfl rfl rfl rfl (by omega) (fun tb v15 htb st hga _ => ?_)
      have hba := below_of_grownBy hga
      have zv15 := hba.size
      replace hs := hs.below hba
      replace hx2 := hx2.below hba
      replace hm := hm.below hba
      replace hx5 := hx5.below hba
      replace hc5 := cell_below hc5 hba
      replace hta := hta.below hba
      replace hg := gr_step hg (grownBy_of_below hba none) (fun k hk => by cases hk)
      clear hba hga
      refine w_nil ?_
      refine h_on ⟨hc5, ?_⟩
      refine h_one 5 ?_
      refine s_call2 (wn rfl) rfl rfl rfl (l01Pick_any q B c bs _ _ v0.heap.size _ hta hql (by simp) (by simp) hs) ?_
      rintro _ v16 ⟨za, hza, rfl, hs', hgq⟩
      have zv16 := hgq.size
      replace hs := hs'
      replace hx2 := hx2.kept hgq (by intro e; have := Option.some.inj e; omega)
      replace hm := hm.kept hgq (by omega)
      replace hx5 := hx5.kept hgq (by intro e; have := Option.some.inj e; omega)
      replace hc5 := cell_kept hc5 hgq (by intro e; have := Option.some.inj e; omega)
      replace hta := hta.kept hgq (hta.apart_blk (by omega))
      replace htb := htb.kept hgq (htb.apart_blk (by omega))
      replace hg := grownBy_trans hg hgq
      clear hgq
      have hza' : 0 ≤ za ∧ za ≤ 1 := by simp at hza; omega
      refine w_nil ?_
      refine h_on ⟨hc5, ?_⟩
      refine h_p 6 hc5 ?_ (hrun := fun w' h => yl)
      refine h_one 9 ?_
      refine s_call2 (wn rfl) rfl rfl rfl (l01Pick_any q B c bs _ _ v0.heap.size _ htb hql (by simp) (by simp) hs) ?_
      rintro _ v17 ⟨zb, hzb, rfl, hs', hgq⟩
      have zv17 := hgq.size
      replace hs := hs'
      replace hx2 := hx2.kept hgq (by intro e; have := Option.some.inj e; omega)
      replace hm := hm.kept hgq (by omega)
      replace hx5 := hx5.kept hgq (by intro e; have := Option.some.inj e; omega)
      replace hc5 := cell_kept hc5 hgq (by intro e; have := Option.some.inj e; omega)
      replace hta := hta.kept hgq (hta.apart_blk (by omega))
      replace htb := htb.kept hgq (htb.apart_blk (by omega))
      replace hg := grownBy_trans hg hgq
      clear hgq
      have hzb' : 0 ≤ zb ∧ zb ≤ 65 := by simp at hzb; omega
      refine w_nil ?_
      refine h_on ⟨hc5, ?_⟩
      refine h_one 10 ?_
      refine s_call3 (wn rfl) rfl rfl rfl rfl (l05DrawWord_any q B c bs _ zb zb.toNat _ (by omega) (by omega) (by omega) hs) ?_
      rintro wv v18 ⟨wd, hw, hwl, hs', hgq⟩
      have zv18 := hgq.size
      replace hs := hs'
      replace hx2 := hx2.kept hgq (by intro e; have := Option.some.inj e; omega)
      replace hm := hm.kept hgq (by omega)
      replace hx5 := hx5.kept hgq (by intro e; have := Option.some.inj e; omega)
      replace hc5 := cell_kept hc5 hgq (by intro e; have := Option.some.inj e; omega)
      replace hta := hta.kept hgq (hta.apart_blk (by omega))
      replace htb := htb.kept hgq (htb.apart_blk (by omega))
      replace hg := grownBy_trans hg hgq
      clear hgq
      refine w_nil ?_
      refine h_on ⟨hc5, ?_⟩
      refine h_one 11 ?_
      refine s_storeBox (wn rfl) rfl rfl hm.sv.one hx2 (fun v19 hxz hgz => ?_)
      have hmz := hm.box hx2 (by decide) (by decide) hgz
      have hwz := hw.kept hgz (.inr (hw.own.apart_box hx2 (by decide)))
      have hB2 := hB1.trans (gr_below hg hB1.size (by omega))
      have hB3 := hB2.trans (hx2.below_of hgz hB2.size)
      have hc5 := cell_kept hc5 hgz (by intro e; have := Option.some.inj e; omega)
      refine w_nil ?_
      refine h_on ⟨hc5, ?_⟩
      refine h_p 12 hc5 ?_ (hrun := fun w' h => yl)
      refine h_nil ?_
      refine go2 ?_
      exact end_cellT Try.results53 rfl rfl hxz.cell ⟨x, _, wv, _, rfl, hmz.rl, hwz.il, hB3⟩
  · refine s_buildI (B := v0.heap.size) [4, 4, 8, 65] (wn rfl) rfl rfl rfl rfl (by omega) (fun tb v20 htb st hga _ => ?_)
    have hba := below_of_grownBy hga
    have zv20 := hba.size
    replace hs := hs.below hba
    replace hx2 := hx2.below hba
    replace hm := hm.below hba
    replace hx5 := hx5.below hba
    replace hc5 := cell_below hc5 hba
    replace hg := gr_step hg (grownBy_of_below hba none) (fun k hk => by cases hk)
    clear hba hga
    refine w_nil ?_
    refine h_on ⟨hc5, ?_⟩
    refine h_one 4 ?_
    refine s_buildI (B := v0.heap.size) [0, 0, 0, 0, 0, 0, 0, 0, 0, 0, 1] (wn rfl) rfl rfl rfl rfl (by omega) (fun ta v21 hta st hga _ => ?_)
    have hba := below_of_grownBy hga
    have zv21 := hba.size
    replace hs := hs.below hba
    replace hx2 := hx2.below hba
    replace hm := hm.below hba
    replace hx5 := hx5.below hba
    replace hc5 := cell_below hc5 hba
    replace htb := htb.below hba
    replace hg := gr_step hg (grownBy_of_below hba none) (fun k hk => by cases hk)
    clear hba hga
    refine w_nil ?_
    refine h_on ⟨hc5, ?_⟩
    refine h_one 5 ?_
    refine s_call2 (wn rfl) rfl rfl rfl (l01Pick_any q B c bs _ _ v0.heap.size _ hta hql (by simp) (by simp) hs) ?_
    rintro _ v22 ⟨za, hza, rfl, hs', hgq⟩
    have zv22 := hgq.size
    replace hs := hs'
    replace hx2 := hx2.kept hgq (by intro e; have := Option.some.inj e; omega)
    replace hm := hm.kept hgq (by omega)
    replace hx5 := hx5.kept hgq (by intro e; have := Option.some.inj e; omega)
    replace hc5 := cell_kept hc5 hgq (by intro e; have := Option.some.inj e; omega)
    replace htb := htb.kept hgq (htb.apart_blk (by omega))
    replace hta := hta.kept hgq (hta.apart_blk (by omega))
    replace hg := grownBy_trans hg hgq
    clear hgq
    have hza' : 0 ≤ za ∧ za ≤ 1 := by simp at hza; omega
    refine w_nil ?_
    refine h_on ⟨hc5, ?_⟩
    refine h_p 6 hc5 ?_ (hrun := fun w' h => yl)
    refine h_one 9 ?_
    refine s_call2 (wn rfl) rfl rfl rfl (l01Pick_any q B c bs _ _ v0.heap.size _ htb hql (by simp) (by simp) hs) ?_
    rintro _ v23 ⟨zb, hzb, rfl, hs', hgq⟩
    have zv23 := hgq.size
    replace hs := hs'
    replace hx2 := hx2.kept hgq (by intro e; have := Option.some.inj e; omega)
    replace hm := hm.kept hgq (by omega)
    replace hx5 := hx5.kept hgq (by intro e; have := Option.some.inj e; omega)
    replace hc5 := cell_kept hc5 hgq (by intro e; have := Option.some.inj e; omega)
    replace htb := htb.kept hgq (htb.apart_blk (by omega))
    replace hta := hta.kept hgq (hta.apart_blk (by omega))
    replace hg := grownBy_trans hg hgq
    clear hgq
    have hzb' : 0 ≤ zb ∧ zb ≤ 65 := by simp at hzb; omega
    refine w_nil ?_
    refine h_on ⟨hc5, ?_⟩
    refine h_one 10 ?_
    refine s_call3 (wn rfl) rfl rfl rfl rfl (l05DrawWord_any q B c bs _ zb zb.toNat _ (by omega) (by omega) (by omega) hs) ?_
    rintro wv v24 ⟨wd, hw, hwl, hs', hgq⟩
    have zv24 := hgq.size
    replace hs := hs'
    replace hx2 := hx2.kept hgq (by intro e; have := Option.some.inj e; omega)
    replace hm := hm.kept hgq (by omega)
    replace hx5 := hx5.kept hgq (by intro e; have := Option.some.inj e; omega)
    replace hc5 := cell_kept hc5 hgq (by intro e; have := Option.some.inj e; omega)
    replace htb := htb.kept hgq (htb.apart_blk (by omega))
    replace hta := hta.kept hgq (hta.apart_blk (by omega))
    replace hg := grownBy_trans hg hgq
    clear hgq
    refine w_nil ?_
    refine h_on ⟨hc5, ?_⟩
    refine h_one 11 ?_
    refine s_storeBox (wn rfl) rfl rfl hm.sv.one hx2 (fun v25 hxz hgz => ?_)
    have hmz := hm.box hx2 (by decide) (by decide) hgz
    have hwz := hw.kept hgz (.inr (hw.own.apart_box hx2 (by decide)))
    have hB2 := hB1.trans (gr_below hg hB1.size (by omega))
    have hB3 := hB2.trans (hx2.below_of hgz hB2.size)
    have hc5 := cell_kept hc5 hgz (by intro e; have := Option.some.inj e; omega)
    refine w_nil ?_
    refine h_on ⟨hc5, ?_⟩
    refine h_p 12 hc5 ?_ (hrun := fun w' h => yl)
    refine h_nil ?_
    refine go2 ?_
    exact end_cellT Try.results53 rfl rfl hxz.cell ⟨x, _, wv, _, rfl, hmz.rl, hwz.il, hB3⟩

set_option maxHeartbeats 8000000 in
set_option maxRecDepth 100000 in
theorem DrawFirstNothing_any (c : Value) (bs : List Int) (w : World) (hcl : CL w c bs) :
    Ret Try.prog 50 #[c] w fun r w' => ∃ (x y : Value) (n : Int) (xss yss : List (List Int)), r = .tuple #[.agg #[x], .agg #[y], .int .i64 n] ∧ RL w' x xss ∧ RL w' y yss ∧ Below w.heap.size w w' := by
  have sc := hcl.sv
  refine enter1 38 Try.func50 rfl Try.ntmps50 rfl (fun fr => ?_)
  refine go2 ?_
  refine s_alloc (B := w.heap.size) (wn rfl) rfl (Nat.le_refl _) (fun w0 p2 hx2 hg0 hp2 => ?_)
  have hb0 := below_of_grownBy hg0
  have z0 := hb0.size
  have hlt2 := hx2.lt
  refine go2 ?_
  refine s_alloc (B := w.heap.size) (wn rfl) rfl z0 (fun w00 p3 hx3 hg00 hp3 => ?_)
  have hb00 := below_of_grownBy hg00
  have z00 := hb00.size
  have hlt3 := hx3.lt
  replace hx2 := hx2.below hb00
  replace hb0 := hb0.trans (hb00.mono z0)
  refine go2 ?_
  refine s_call1 (wn rfl) rfl rfl (l01From_any c bs _ (hcl.below hb0)) ?_
  rintro _ v0 ⟨q, rfl, hs, hbf⟩
  have zf := hbf.size
  have hql := hs.lt
  have hq1 := hs.low
  replace hx2 := hx2.below hbf
  replace hx3 := hx3.below hbf
  obtain ⟨B, hBe⟩ : ∃ B, B = w00.heap.size := ⟨_, rfl⟩
  rw [← hBe] at hs
  have hB1 := hb0.trans (hbf.mono (by omega))
  refine go2 ?_
  refine s_call1 (wn rfl) rfl rfl (l08Two_any q B c bs _ hs) ?_
  rintro _ v1 ⟨x, y, z1, z2, xss, yss, rfl, hm, hk, ⟨hxl, hxr⟩, ⟨hyl, hyr⟩, hs', hgq⟩
  have zv1 := hgq.size
  replace hs := hs'
  replace hx2 := hx2.kept hgq (by intro e; have := Option.some.inj e; omega)
  replace hx3 := hx3.kept hgq (by intro e; have := Option.some.inj e; omega)
  have hg := hgq
  clear hgq
  refine go2 ?_
  refine s_p (wn rfl) rfl (y_x40 rfl) ?_
  refine s_p (wn rfl) rfl (y_x41 rfl) ?_
  refine s_p (wn rfl) rfl (y_x42 rfl) ?_
  refine s_p (wn rfl) rfl (y_x43 rfl) ?_
  refine go2 ?_
  refine s_alloc (B := v0.heap.size) (wn rfl) rfl (by first | exact Nat.le_refl _ | omega) (fun v2 p6 hx6 hga hpp6 => ?_)
  have hba := below_of_grownBy hga
  have zv2 := hba.size
  replace hs := hs.below hba
  replace hx2 := hx2.below hba
  replace hx3 := hx3.below hba
  replace hm := hm.below hba
  replace hk := hk.below hba
  replace hg := gr_step hg (grownBy_of_below hba none) (fun k hk => by cases hk)
  clear hba hga
  have hltp6 := hx6.lt
  refine go2 ?_
  refine s_alloc (B := v0.heap.size) (wn rfl) rfl (by first | exact Nat.le_refl _ | omega) (fun v3 p8 hx8 hga hpp8 => ?_)
  have hba := below_of_grownBy hga
  have zv3 := hba.size
  replace hs := hs.below hba
  replace hx2 := hx2.below hba
  replace hx3 := hx3.below hba
  replace hm := hm.below hba
  replace hk := hk.below hba
  replace hx6 := hx6.below hba
  replace hg := gr_step hg (grownBy_of_below hba none) (fun k hk => by cases hk)
  clear hba hga
  have hltp8 := hx8.lt
  have hlt68 : p6.block < p8.block := by have := hpp8; omega
  refine go2 ?_
  refine s_storeBox (wn rfl) rfl rfl hm.sv.one hx6 (fun v4 hxN hgp => ?_)
  have zv4 := hgp.size
  replace hs := hs.kept hgp (fun k hk => by cases hk; exact ⟨by have := hs.low; omega, by omega⟩)
  replace hx2 := hx2.kept hgp (by intro e; have := Option.some.inj e; omega)
  replace hx3 := hx3.kept hgp (by intro e; have := Option.some.inj e; omega)
  replace hm := hm.box hx6 (by decide) (by decide) hgp
  replace hk := hk.box hx6 (by decide) (by decide) hgp
  replace hx8 := hx8.kept hgp (by intro e; have := Option.some.inj e; omega)
  replace hx6 := hxN
  replace hg := gr_step hg hgp (fun k hk => by cases hk; omega)
  clear hgp
  refine go2 ?_
  refine go2 ?_
  refine s_storeBox (wn rfl) rfl rfl hk.sv.one hx8 (fun v5 hxN hgp => ?_)
  have zv5 := hgp.size
  replace hs := hs.kept hgp (fun k hk => by cases hk; exact ⟨by have := hs.low; omega, by omega⟩)
  replace hx2 := hx2.kept hgp (by intro e; have := Option.some.inj e; omega)
  replace hx3 := hx3.kept hgp (by intro e; have := Option.some.inj e; omega)
  replace hm := hm.box hx8 (by decide) (by decide) hgp
  replace hk := hk.box hx8 (by decide) (by decide) hgp
  replace hx6 := hx6.kept hgp (by intro e; have := Option.some.inj e; omega)
  replace hx8 := hxN
  replace hg := gr_step hg hgp (fun k hk => by cases hk; omega)
  clear hgp
  have hc6 := hx6.cell
  have hc8 := hx8.cell
  have hlow6 := hx6.low
  have hlow8 := hx8.low
  have sm := hm.sv
  refine go2 ?_
  refine cond_dec rfl (fun e0 => ?_) (fun e0 => ?_)
  · refine go2 ?_
    refine s_call2 (wn rfl) rfl rfl rfl (l01Next_any q 16 B c bs _ hs (by omega)) ?_
    rintro _ v6 ⟨k1, rfl, hk10, hk1, hs', hgq⟩
    have zv6 := hgq.size
    replace hs := hs'
    replace hx2 := hx2.kept hgq (by intro e; have := Option.some.inj e; omega)
    replace hx3 := hx3.kept hgq (by intro e; have := Option.some.inj e; omega)
    replace hm := hm.kept hgq (by omega)
    replace hk := hk.kept hgq (by omega)
    replace hx6 := hx6.kept hgq (by intro e; have := Option.some.inj e; omega)
    replace hx8 := hx8.kept hgq (by intro e; have := Option.some.inj e; omega)
    replace hc6 := cell_kept hc6 hgq (by intro e; have := Option.some.inj e; omega)
    replace hc8 := cell_kept hc8 hgq (by intro e; have := Option.some.inj e; omega)
    replace hg := grownBy_trans hg hgq
    clear hgq
    refine go2 ?_
    refine cond_dec rfl (fun e1 => ?_) (fun e1 => ?_)
    · refine go2 ?_
      refine region_hS (fun w' => w'.cell? p6 = some x ∧ w'.cell? p8 = some y) mixed (fun v7 cr => ?_)
      have zv7 := cr.size
      replace hs := hs.below cr
      replace hx2 := hx2.below cr
      replace hx3 := hx3.below cr
      replace hm := hm.below cr
      replace hk := hk.below cr
      replace hx6 := hx6.below cr
      replace hx8 := hx8.below cr
      replace hc6 := cell_below hc6 cr
      replace hc8 := cell_below hc8 cr
      replace hg := gr_step hg (grownBy_of_below cr none) (fun k hk => by cases hk)
      refine h_p 0 ⟨hc6, hc8⟩ ?_ (hrun := fun w' h => by obtain ⟨h1, h2⟩ := h; exact yl)
      refine h_p 1 ⟨hc6, hc8⟩ ?_ (hrun := fun w' h => by obtain ⟨h1, h2⟩ := h; exact yl)
      refine h_p 2 ⟨hc6, hc8⟩ ?_ (hrun := fun w' h => by obtain ⟨h1, h2⟩ := h; exact yl)
      refine h_one 3 ?_
      refine s_buildI (B := v0.heap.size) [-1, 13] (wn rfl) rfl rfl rfl rfl (by omega) (fun ta v8 hta st hga _ => ?_)
      have hba := below_of_grownBy hga
      have zv8 := hba.size
      replace hs := hs.below hba
      replace hx2 := hx2.below hba
      replace hx3 := hx3.below hba
      replace hm := hm.below hba
      replace hk := hk.below hba
      replace hx6 := hx6.below hba
      replace hx8 := hx8.below hba
      replace hc6 := cell_below hc6 hba
      replace hc8 := cell_below hc8 hba
      replace hg := gr_step hg (grownBy_of_below hba none) (fun k hk => by cases hk)
      clear hba hga
      refine w_nil ?_
      refine h_on ⟨⟨hc6, hc8⟩, ?_⟩
      refine h_one 4 ?_
      refine s_call2 (wn rfl) rfl rfl rfl (l01Pick_any q B c bs _ _ v0.heap.size _ hta hql (by simp) (by simp) hs) ?_
      rintro _ v9 ⟨za, hza, rfl, hs', hgq⟩
      have zv9 := hgq.size
      replace hs := hs'
      replace hx2 := hx2.kept hgq (by intro e; have := Option.some.inj e; omega)
      replace hx3 := hx3.kept hgq (by intro e; have := Option.some.inj e; omega)
      replace hm := hm.kept hgq (by omega)
      replace hk := hk.kept hgq (by omega)
      replace hx6 := hx6.kept hgq (by intro e; have := Option.some.inj e; omega)
      replace hx8 := hx8.kept hgq (by intro e; have := Option.some.inj e; omega)
      replace hc6 := cell_kept hc6 hgq (by intro e; have := Option.some.inj e; omega)
      replace hc8 := cell_kept hc8 hgq (by intro e; have := Option.some.inj e; omega)
      replace hta := hta.kept hgq (hta.apart_blk (by omega))
      replace hg := grownBy_trans hg hgq
      clear hgq
      refine w_nil ?_
      refine h_on ⟨⟨hc6, hc8⟩, ?_⟩
      have hB2 := hB1.trans (gr_below hg hB1.size (by omega))
      refine h_one 5 ?_
      refine s_storeBox (wn rfl) rfl rfl hm.sv.one hx2 (fun v10 hxz hgz => ?_)
      have zz := hgz.size
      have hm2 := hm.box hx2 (by decide) (by decide) hgz
      have hk2 := hk.box hx2 (by decide) (by decide) hgz
      have hB3 := hB2.trans (hx2.below_of hgz hB2.size)
      have hx3z := hx3.kept hgz (by intro e; have := Option.some.inj e; omega)
      have hc6 := cell_kept hc6 hgz (by intro e; have := Option.some.inj e; omega)
      have hc8 := cell_kept hc8 hgz (by intro e; have := Option.some.inj e; omega)
      refine w_nil ?_
      refine h_on ⟨⟨hc6, hc8⟩, ?_⟩
      refine h_one 6 ?_
      refine s_storeBox (wn rfl) rfl rfl hk2.sv.one hx3z (fun v11 hx3n hgz2 => ?_)
      have hm3 := hm2.box hx3z (by decide) (by decide) hgz2
      have hk3 := hk2.box hx3z (by decide) (by decide) hgz2
      have hB4 := hB3.trans (hx3z.below_of hgz2 hB3.size)
      have hx2n := hxz.kept hgz2 (by intro e; have := Option.some.inj e; omega)
      have hc6 := cell_kept hc6 hgz2 (by intro e; have := Option.some.inj e; omega)
      have hc8 := cell_kept hc8 hgz2 (by intro e; have := Option.some.inj e; omega)
      refine w_nil ?_
      refine h_on ⟨⟨hc6, hc8⟩, ?_⟩
      refine h_p 7 ⟨hc6, hc8⟩ ?_ (hrun := fun w' h => by obtain ⟨h1, h2⟩ := h; exact yl)
      refine h_nil ?_
      refine go2 ?_
      exact end_cell23 Try.results50 rfl rfl rfl hx2n.cell hx3n.cell ⟨x, y, za, _, _, rfl, hm3.rl, hk3.rl, hB4⟩
    refine go2 ?_
    refine region_hS (fun w' => w'.cell? p6 = some x ∧ w'.cell? p8 = some y) mixed (fun v12 cr => ?_)
    have zv12 := cr.size
    replace hs := hs.below cr
    replace hx2 := hx2.below cr
    replace hx3 := hx3.below cr
    replace hm := hm.below cr
    replace hk := hk.below cr
    replace hx6 := hx6.below cr
    replace hx8 := hx8.below cr
    replace hc6 := cell_below hc6 cr
    replace hc8 := cell_below hc8 cr
    replace hg := gr_step hg (grownBy_of_below cr none) (fun k hk => by cases hk)
    refine h_p 0 ⟨hc6, hc8⟩ ?_ (hrun := fun w' h => by obtain ⟨h1, h2⟩ := h; exact yl)
    refine h_p 1 ⟨hc6, hc8⟩ ?_ (hrun := fun w' h => by obtain ⟨h1, h2⟩ := h; exact yl)
    refine h_p 2 ⟨hc6, hc8⟩ ?_ (hrun := fun w' h => by obtain ⟨h1, h2⟩ := h; exact yl)
    refine h_p 3 ⟨hc6, hc8⟩ ?_ (hrun := fun w' h => by obtain ⟨h1, h2⟩ := h; exact yl)
    refine h_p 4 ⟨hc6, hc8⟩ ?_ (hrun := fun w' h => by obtain ⟨h1, h2⟩ := h; exact yl)
    refine h_one 5 ?_
    refine s_call2 (wn rfl) rfl rfl rfl (l01Next_any q _ B c bs _ hs (by omega)) ?_
    rintro _ v13 ⟨kn, rfl, _, _, hs', hgq⟩
    have zv13 := hgq.size
    replace hs := hs'
    replace hx2 := hx2.kept hgq (by intro e; have := Option.some.inj e; omega)
    replace hx3 := hx3.kept hgq (by intro e; have := Option.some.inj e; omega)
    replace hm := hm.kept hgq (by omega)
    replace hk := hk.kept hgq (by omega)
    replace hx6 := hx6.kept hgq (by intro e; have := Option.some.inj e; omega)
    replace hx8 := hx8.kept hgq (by intro e; have := Option.some.inj e; omega)
    replace hc6 := cell_kept hc6 hgq (by intro e; have := Option.some.inj e; omega)
    replace hc8 := cell_kept hc8 hgq (by intro e; have := Option.some.inj e; omega)
    replace hg := grownBy_trans hg hgq
    clear hgq
    refine w_nil ?_
    refine h_on ⟨⟨hc6, hc8⟩, ?_⟩
    have hB2 := hB1.trans (gr_below hg hB1.size (by omega))
    refine h_one 6 ?_
    refine s_storeBox (wn rfl) rfl rfl hm.sv.one hx2 (fun v14 hxz hgz => ?_)
    have zz := hgz.size
    have hm2 := hm.box hx2 (by decide) (by decide) hgz
    have hk2 := hk.box hx2 (by decide) (by decide) hgz
    have hB3 := hB2.trans (hx2.below_of hgz hB2.size)
    have hx3z := hx3.kept hgz (by intro e; have := Option.some.inj e; omega)
    have hc6 := cell_kept hc6 hgz (by intro e; have := Option.some.inj e; omega)
    have hc8 := cell_kept hc8 hgz (by intro e; have := Option.some.inj e; omega)
    refine w_nil ?_
    refine h_on ⟨⟨hc6, hc8⟩, ?_⟩
    refine h_one 7 ?_
    refine s_storeBox (wn rfl) rfl rfl hk2.sv.one hx3z (fun v15 hx3n hgz2 => ?_)
    have hm3 := hm2.box hx3z (by decide) (by decide) hgz2
    have hk3 := hk2.box hx3z (by decide) (by decide) hgz2
    have hB4 := hB3.trans (hx3z.below_of hgz2 hB3.size)
    have hx2n := hxz.kept hgz2 (by intro e; have := Option.some.inj e; omega)
    have hc6 := cell_kept hc6 hgz2 (by intro e; have := Option.some.inj e; omega)
    have hc8 := cell_kept hc8 hgz2 (by intro e; have := Option.some.inj e; omega)
    refine w_nil ?_
    refine h_on ⟨⟨hc6, hc8⟩, ?_⟩
    refine h_p 8 ⟨hc6, hc8⟩ ?_ (hrun := fun w' h => by obtain ⟨h1, h2⟩ := h; exact yl)
    refine h_nil ?_
    refine go2 ?_
    exact end_cell23 Try.results50 rfl rfl rfl hx2n.cell hx3n.cell ⟨x, y, kn, _, _, rfl, hm3.rl, hk3.rl, hB4⟩
  refine go2 ?_
  refine s_call2 (wn rfl) rfl rfl rfl (l01Next_any q 16 B c bs _ hs (by omega)) ?_
  rintro _ v16 ⟨k1, rfl, hk10, hk1, hs', hgq⟩
  have zv16 := hgq.size
  replace hs := hs'
  replace hx2 := hx2.kept hgq (by intro e; have := Option.some.inj e; omega)
  replace hx3 := hx3.kept hgq (by intro e; have := Option.some.inj e; omega)
  replace hm := hm.kept hgq (by omega)
  replace hk := hk.kept hgq (by omega)
  replace hx6 := hx6.kept hgq (by intro e; have := Option.some.inj e; omega)
  replace hx8 := hx8.kept hgq (by intro e; have := Option.some.inj e; omega)
  replace hc6 := cell_kept hc6 hgq (by intro e; have := Option.some.inj e; omega)
  replace hc8 := cell_kept hc8 hgq (by intro e; have := Option.some.inj e; omega)
  replace hg := grownBy_trans hg hgq
  clear hgq
  refine go2 ?_
  refine cond_dec rfl (fun e1 => ?_) (fun e1 => ?_)
  · refine go2 ?_
    refine region_hS (fun w' => w'.cell? p6 = some x ∧ w'.cell? p8 = some y) mixed (fun v17 cr => ?_)
    have zv17 := cr.size
    replace hs := hs.below cr
    replace hx2 := hx2.below cr
    replace hx3 := hx3.below cr
    replace hm := hm.below cr
    replace hk := hk.below cr
    replace hx6 := hx6.below cr
    replace hx8 := hx8.below cr
    replace hc6 := cell_below hc6 cr
    replace hc8 := cell_below hc8 cr
    replace hg := gr_step hg (grownBy_of_below cr none) (fun k hk => by cases hk)
    refine h_p 0 ⟨hc6, hc8⟩ ?_ (hrun := fun w' h => by obtain ⟨h1, h2⟩ := h; exact yl)
    refine h_p 1 ⟨hc6, hc8⟩ ?_ (hrun := fun w' h => by obtain ⟨h1, h2⟩ := h; exact yl)
    refine h_p 2 ⟨hc6, hc8⟩ ?_ (hrun := fun w' h => by obtain ⟨h1, h2⟩ := h; exact yl)
    refine h_one 3 ?_
    refine s_buildI (B := v0.heap.size) [-1, 13] (wn rfl) rfl rfl rfl rfl (by omega) (fun ta v18 hta st hga _ => ?_)
    have hba := below_of_grownBy hga
    have zv18 := hba.size
    replace hs := hs.below hba
    replace hx2 := hx2.below hba
    replace hx3 := hx3.below hba
    replace hm := hm.below hba
    replace hk := hk.below hba
    replace hx6 := hx6.below hba
    replace hx8 := hx8.below hba
    replace hc6 := cell_below hc6 hba
    replace hc8 := cell_below hc8 hba
    replace hg := gr_step hg (grownBy_of_below hba none) (fun k hk => by cases hk)
    clear hba hga
    refine w_nil ?_
    refine h_on ⟨⟨hc6, hc8⟩, ?_⟩
    refine h_one 4 ?_
    refine s_call2 (wn rfl) rfl rfl rfl (l01Pick_any q B c bs _ _ v0.heap.size _ hta hql (by simp) (by simp) hs) ?_
    rintro _ v19 ⟨za, hza, rfl, hs', hgq⟩
    have zv19 := hgq.size
    replace hs := hs'
    replace hx2 := hx2.kept hgq (by intro e; have := Option.some.inj e; omega)
    replace hx3 := hx3.kept hgq (by intro e; have := Option.some.inj e; omega)
    replace hm := hm.kept hgq (by omega)
    replace hk := hk.kept hgq (by omega)
    replace hx6 := hx6.kept hgq (by intro e; have := Option.some.inj e; omega)
    replace hx8 := hx8.kept hgq (by intro e; have := Option.some.inj e; omega)
    replace hc6 := cell_kept hc6 hgq (by intro e; have := Option.some.inj e; omega)
    replace hc8 := cell_kept hc8 hgq (by intro e; have := Option.some.inj e; omega)
    replace hta := hta.kept hgq (hta.apart_blk (by omega))
    replace hg := grownBy_trans hg hgq
    clear hgq
    refine w_nil ?_
    refine h_on ⟨⟨hc6, hc8⟩, ?_⟩
    have hB2 := hB1.trans (gr_below hg hB1.size (by omega))
    refine h_one 5 ?_
    refine s_storeBox (wn rfl) rfl rfl hm.sv.one hx2 (fun v20 hxz hgz => ?_)
    have zz := hgz.size
    have hm2 := hm.box hx2 (by decide) (by decide) hgz
    have hk2 := hk.box hx2 (by decide) (by decide) hgz
    have hB3 := hB2.trans (hx2.below_of hgz hB2.size)
    have hx3z := hx3.kept hgz (by intro e; have := Option.some.inj e; omega)
    have hc6 := cell_kept hc6 hgz (by intro e; have := Option.some.inj e; omega)
    have hc8 := cell_kept hc8 hgz (by intro e; have := Option.some.inj e; omega)
    refine w_nil ?_
    refine h_on ⟨⟨hc6, hc8⟩, ?_⟩
    refine h_one 6 ?_
    refine s_storeBox (wn rfl) rfl rfl hk2.sv.one hx3z (fun v21 hx3n hgz2 => ?_)
    have hm3 := hm2.box hx3z (by decide) (by decide) hgz2
    have hk3 := hk2.box hx3z (by decide) (by decide) hgz2
    have hB4 := hB3.trans (hx3z.below_of hgz2 hB3.size)
    have hx2n := hxz.kept hgz2 (by intro e; have := Option.some.inj e; omega)
    have hc6 := cell_kept hc6 hgz2 (by intro e; have := Option.some.inj e; omega)
    have hc8 := cell_kept hc8 hgz2 (by intro e; have := Option.some.inj e; omega)
    refine w_nil ?_
    refine h_on ⟨⟨hc6, hc8⟩, ?_⟩
    refine h_p 7 ⟨hc6, hc8⟩ ?_ (hrun := fun w' h => by obtain ⟨h1, h2⟩ := h; exact yl)
    refine h_nil ?_
    refine go2 ?_
    exact end_cell23 Try.results50 rfl rfl rfl hx2n.cell hx3n.cell ⟨x, y, za, _, _, rfl, hm3.rl, hk3.rl, hB4⟩
  refine go2 ?_
  refine region_hS (fun w' => w'.cell? p6 = some x ∧ w'.cell? p8 = some y) mixed (fun v22 cr => ?_)
  have zv22 := cr.size
  replace hs := hs.below cr
  replace hx2 := hx2.below cr
  replace hx3 := hx3.below cr
  replace hm := hm.below cr
  replace hk := hk.below cr
  replace hx6 := hx6.below cr
  replace hx8 := hx8.below cr
  replace hc6 := cell_below hc6 cr
  replace hc8 := cell_below hc8 cr
  replace hg := gr_step hg (grownBy_of_below cr none) (fun k hk => by cases hk)
  refine h_p 0 ⟨hc6, hc8⟩ ?_ (hrun := fun w' h => by obtain ⟨h1, h2⟩ := h; exact yl)
  refine h_p 1 ⟨hc6, hc8⟩ ?_ (hrun := fun w' h => by obtain ⟨h1, h2⟩ := h; exact yl)
  refine h_p 2 ⟨hc6, hc8⟩ ?_ (hrun := fun w' h => by obtain ⟨h1, h2⟩ := h; exact yl)
  refine h_p 3 ⟨hc6, hc8⟩ ?_ (hrun := fun w' h => by obtain ⟨h1, h2⟩ := h; exact yl)
  refine h_p 4 ⟨hc6, hc8⟩ ?_ (hrun := fun w' h => by obtain ⟨h1, h2⟩ := h; exact yl)
  refine h_one 5 ?_
  refine s_call2 (wn rfl) rfl rfl rfl (l01Next_any q _ B c bs _ hs (by omega)) ?_
  rintro _ v23 ⟨kn, rfl, _, _, hs', hgq⟩
  have zv23 := hgq.size
  replace hs := hs'
  replace hx2 := hx2.kept hgq (by intro e; have := Option.some.inj e; omega)
  replace hx3 := hx3.kept hgq (by intro e; have := Option.some.inj e; omega)
  replace hm := hm.kept hgq (by omega)
  replace hk := hk.kept hgq (by omega)
  replace hx6 := hx6.kept hgq (by intro e; have := Option.some.inj e; omega)
  replace hx8 := hx8.kept hgq (by intro e; have := Option.some.inj e; omega)
  replace hc6 := cell_kept hc6 hgq (by intro e; have := Option.some.inj e; omega)
  replace hc8 := cell_kept hc8 hgq (by intro e; have := Option.some.inj e; omega)
  replace hg := grownBy_trans hg hgq
  clear hgq
  refine w_nil ?_
  refine h_on ⟨⟨hc6, hc8⟩, ?_⟩
  have hB2 := hB1.trans (gr_below hg hB1.size (by omega))
  refine h_one 6 ?_
  refine s_storeBox (wn rfl) rfl rfl hm.sv.one hx2 (fun v24 hxz hgz => ?_)
  have zz := hgz.size
  have hm2 := hm.box hx2 (by decide) (by decide) hgz
  have hk2 := hk.box hx2 (by decide) (by decide) hgz
  have hB3 := hB2.trans (hx2.below_of hgz hB2.size)
  have hx3z := hx3.kept hgz (by intro e; have := Option.some.inj e; omega)
  have hc6 := cell_kept hc6 hgz (by intro e; have := Option.some.inj e; omega)
  have hc8 := cell_kept hc8 hgz (by intro e; have := Option.some.inj e; omega)
  refine w_nil ?_
  refine h_on ⟨⟨hc6, hc8⟩, ?_⟩
  refine h_one 7 ?_
  refine s_storeBox (wn rfl) rfl rfl hk2.sv.one hx3z (fun v25 hx3n hgz2 => ?_)
  have hm3 := hm2.box hx3z (by decide) (by decide) hgz2
  have hk3 := hk2.box hx3z (by decide) (by decide) hgz2
  have hB4 := hB3.trans (hx3z.below_of hgz2 hB3.size)
  have hx2n := hxz.kept hgz2 (by intro e; have := Option.some.inj e; omega)
  have hc6 := cell_kept hc6 hgz2 (by intro e; have := Option.some.inj e; omega)
  have hc8 := cell_kept hc8 hgz2 (by intro e; have := Option.some.inj e; omega)
  refine w_nil ?_
  refine h_on ⟨⟨hc6, hc8⟩, ?_⟩
  refine h_p 8 ⟨hc6, hc8⟩ ?_ (hrun := fun w' h => by obtain ⟨h1, h2⟩ := h; exact yl)
  refine h_nil ?_
  refine go2 ?_
  exact end_cell23 Try.results50 rfl rfl rfl hx2n.cell hx3n.cell ⟨x, y, kn, _, _, rfl, hm3.rl, hk3.rl, hB4⟩

end Go.Proofs.Ytmdimdbfgibflaa
