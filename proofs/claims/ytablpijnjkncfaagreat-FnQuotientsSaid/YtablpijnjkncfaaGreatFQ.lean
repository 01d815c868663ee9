/- Texts laid together: P44 P49 F114. -/
import Derived.Test.YtablpijnjkncfaaGreatPF
import Derived.Test.YtablpijnjkncfaaGreatPD
import Derived.Test.YtablpijnjkncfaaGreatLD
import Derived.Test.YtablpijnjkncfaaGreatF41
import Derived.Test.YtablpijnjkncfaaGreatFJ
import Derived.Test.YtablpijnjkncfaaGreatFI
import Derived.Test.YtablpijnjkncfaaGreatF72
import Derived.Test.YtablpijnjkncfaaGreatTw
/- Plain words on lists: a maniplex covers its quotients, and normally. No program in sight. -/
namespace Go.Mem
set_option linter.unusedVariables false
section
variable {ms A : List (List Int)}
theorem quo_len : (quoL ms A).length = ms.length := by simp [quoL]
theorem gr_quo {j : Nat} (hj : j < ms.length) : gr (quoL ms A) j = symRow (labs (nf ms) A) (labc (nf ms) A).toNat (gr ms j) := by simp [quoL, gr, List.getD, hj]
theorem nf_quo (hm : IsMan ms) : nf (quoL ms A) = (labc (nf ms) A).toNat := by
  have r1 := hm.m0.r1
  have := gr_quo (ms := ms) (A := A) (j := 0) (by omega)
  unfold nf
  rw [show ((0 : Nat) : Int) = 0 from rfl] at this
  rw [this]; exact length_symRow _ _ _
/-- the numbers of the orbits are a covering -/
theorem quo_hom (hm : IsMan ms) (hA : ∀ p ∈ A, Hom ms ms p) : Hom ms (quoL ms A) (labs (nf ms) A) := by
  have h4 := hm.m0.f400
  have hs := homs_sym hm hA
  have hL := labs_all hs (by omega)
  have hn := nf_quo (A := A) hm
  refine ⟨hL.len, fun x h0 hx => ?_, fun j hj x h0 hx => ?_⟩
  · have := hL.done x h0 hx hx
    have := (hL.rng x h0 hx).2
    omega
  · rw [gr_quo hj]
    exact (gi_symRow (homs_comm hm hA hj) hs (by omega) ⟨h0, hx⟩).symm
theorem quo_cov (hm : IsMan ms) (hA : ∀ p ∈ A, Hom ms ms p) (hq : IsMan (quoL ms A)) : IsCov ms (quoL ms A) (labs (nf ms) A) :=
  (quo_hom hm hA).isCov hm hq quo_len.symm
/-- what one comes to by automorphisms of A, is come to by one automorphism that keeps the orbits -/
theorem quo_reach (hm : IsMan ms) (hA : ∀ p ∈ A, Hom ms ms p) {x y : Int} (hx : 0 ≤ x ∧ x < nf ms) (hr : Rch A x y) : ∃ p, Hom ms ms p ∧ gi p x = y := by
  induction hr with
  | refl => exact ⟨idl (nf ms), Hom.idl hm, gi_idl hx.1 hx.2⟩
  | @step y m hr hmm ih =>
    obtain ⟨p, hp, rfl⟩ := ih
    have e := gi_aft (p := p) (q := m) (x := x) hx.1 (by rw [hp.len]; exact hx.2)
    exact ⟨aft p m, hp.aft (hA m hmm) hm rfl, e⟩
/-- the covering is normal -/
theorem quo_norm (hm : IsMan ms) (hA : ∀ p ∈ A, Hom ms ms p) (hq : IsMan (quoL ms A)) : isNorm ms (quoL ms A) (labs (nf ms) A) = true ∧ (deck ms (labs (nf ms) A)).length = (plc (labs (nf ms) A) 0).length ∧ (plc (labs (nf ms) A) 0).length * nf (quoL ms A) = nf ms := by
  have h4 := hm.m0.f400
  have f2 := hm.m0.f2
  have hs := homs_sym hm hA
  have hL := labs_all hs (by omega)
  have hc := quo_cov hm hA hq
  have hcc : covC ms (quoL ms A) (labs (nf ms) A) = 0 := by
    unfold covC
    rw [if_pos ⟨hm, hq⟩, if_pos hc]
  have l0 := hL.done 0 (by omega) (by omega) (by omega)
  have z0 : (plc (labs (nf ms) A) (gi (labs (nf ms) A) 0)).length = (plc (labs (nf ms) A) 0).length := by
    have hr := (quo_hom hm hA).rng 0 (by omega) (by omega)
    exact plc_same hm hq quo_len.symm (quo_hom hm hA) hr.1 hr.2
  have e : (deck ms (labs (nf ms) A)).length = (plc (labs (nf ms) A) 0).length := by
    rw [← z0, ← deck_fibre hm hL.len]
    have key : ∀ f ∈ plc (labs (nf ms) A) (gi (labs (nf ms) A) 0), (mapTo ms ms f).isSome = true := fun f hf => by
      obtain ⟨h0, h1, h2⟩ := mem_plc.1 hf
      rw [hL.len] at h1
      have hr := hL.only 0 f (by omega) (by omega) h0 h1 l0 h2
      obtain ⟨p, hp, e⟩ := quo_reach hm hA (by omega) hr
      have := hp.map hm hm rfl
      rw [e] at this
      rw [this]; rfl
    generalize plc (labs (nf ms) A) (gi (labs (nf ms) A) 0) = P at *
    clear hcc hc z0
    induction P with
    | nil => rfl
    | cons a P ih =>
      have ha := key a (by simp)
      obtain ⟨p, hp⟩ := Option.isSome_iff_exists.1 ha
      rw [List.filterMap_cons, hp]
      simp only [List.length_cons]
      rw [ih fun f hf => key f (List.mem_cons_of_mem _ hf)]
  refine ⟨by rw [isNorm_yes hcc]; exact decide_eq_true e, e, ?_⟩
  rw [Nat.mul_comm]; exact (fibre_size hm hq hc).symm
/-- the automorphisms of A keep the orbits -/
theorem quo_deck (hm : IsMan ms) (hA : ∀ p ∈ A, Hom ms ms p) : ∀ p ∈ A, p ∈ deck ms (labs (nf ms) A) := fun p hp => by
  have h4 := hm.m0.f400
  have f2 := hm.m0.f2
  have hL := labs_all (homs_sym hm hA) (by omega)
  unfold deck
  refine List.mem_filter.2 ⟨(mem_auts hm).2 (hA p hp), decide_eq_true ?_⟩
  exact hL.shut 0 _ (by omega) (by omega) (hL.done 0 (by omega) (by omega) (by omega)) (.step (.refl _) hp)
end
end Go.Mem

/- Plain words on lists: the quotient by one automorphism is among the forms of quotients. No program in sight. -/
namespace Go.Mem
set_option linter.unusedVariables false
section
variable {ms : List (List Int)} {p : List Int}
theorem qf_has (hm : IsMan ms) (hp : Hom ms ms p) (hq : IsMan (quoL ms [p])) : lst (quoL ms [p]) ∈ qfL ms := by
  rw [(qf_2 hm).1, (fmsM_ok _).2, qfT, List.take_length]
  exact List.mem_map.2 ⟨p, List.mem_filter.2 ⟨(mem_auts hm).2 hp, decide_eq_true hq⟩, rfl⟩
end
end Go.Mem

/- Contracts: OrbitLabels at good arguments; the draw of a maniplex and of some of its automorphisms. -/
namespace Go.Proofs.YtablpijnjkncfaaGreat
open Go.Mem Go.RowKit
set_option linter.unusedVariables false
set_option linter.unusedSimpArgs false

set_option maxHeartbeats 8000000 in
set_option maxRecDepth 100000 in
theorem isSys1_any (u : Value) (xs : List Int) (q : Addr) (n : Nat) (w : World) (hu : IL w u xs) (hq : w.cell? q = some (.int .i64 n)) (hp : IsPerm xs) (hl : xs.length = n) :
    Ret Tryz.prog 85 #[u, .pointer (some q)] w fun r w' => r = .bool false ∧ Below w.heap.size w w' := by
  have shu := hu.sv
  have hb := Below.refl w.heap.size w
  refine enter2 13 Tryz.func85 rfl Tryz.ntmps85 rfl (fun fr => ?_)
  have d1 := decide_eq_true hp
  have k1 : ¬ ((xs.length : Int) ≠ (n : Int)) := fun h => h (by omega)
  refine go ?_
  refine region_hS (fun w' => w'.cell? q = some (.int .i64 n)) mixed (fun w1 hb1 => ?_)
  have sw1 := hb1.size
  replace hu := hu.below hb1
  replace hq := cell_below hq hb1
  replace hb := hb.trans (hb1.mono hb.size)
  refine h_p 0 hq ?_ (hrun := fun w' h => yl)
  refine h_one 1 ?_
  refine s_call1 (wn rfl) rfl rfl (isPermutation_any _ _ _ hu) ?_
  rintro _ w2 ⟨rfl, hb2⟩
  have sw2 := hb2.size
  replace hu := hu.below hb2
  replace hq := cell_below hq hb2
  replace hb := hb.trans (hb2.mono hb.size)
  rw [d1]
  refine w_nil ?_
  refine h_on ⟨hq, ?_⟩
  refine h_p 2 hq ?_ (hrun := fun w' h => yl)
  refine h_p 3 hq ?_ (hrun := fun w' h => yl)
  refine h_p 4 hq ?_ (hrun := fun w' h => yl)
  refine h_p 6 hq ?_ (hrun := fun w' h => yl)
  refine h_one 5 ?_
  refine s_call1 (wy rfl rfl rfl rfl rfl known) rfl rfl (size_any _ _ _ hu.sv) ?_
  rintro _ _ ⟨rfl, rfl⟩
  refine w_nil ?_
  refine h_on ⟨hq, ?_⟩
  refine h_p 7 hq ?_ (hrun := fun w' h => yl)
  refine h_p 8 hq ?_ (hrun := fun w' h => yl)
  refine h_p 9 hq ?_ (hrun := fun w' h => yl)
  refine h_nil ?_
  refine go ?_
  exact end_one Tryz.results85 rfl ⟨by rw [decide_eq_false k1], hb⟩

set_option maxHeartbeats 8000000 in
set_option maxRecDepth 100000 in
theorem isSystem_good (v2 : Value) (m : Int) (aa : List (List Int)) (n : Nat) (w : World) (hv2 : RL w v2 aa) (em : m = n) (hn : n ≤ 400) (hal : aa.length ≤ 16) (hA : ∀ p ∈ aa, IsPerm p ∧ p.length = n) :
    Ret Tryz.prog 46 #[.int .i64 m, v2] w fun r w' => r = .bool true ∧ Below w.heap.size w w' := by
  have shv2 := hv2.sv
  have hb := Below.refl w.heap.size w
  refine enter2 18 Tryz.func46 rfl Tryz.ntmps46 rfl (fun fr => ?_)
  subst em
  refine go ?_
  refine s_box (wn rfl) rfl rfl rfl (fun w1 hbx _ hp hg => ?_)
  have hb1 := below_of_grownBy hg
  have sw1 := hb1.size
  replace hv2 := hv2.below hb1
  replace hb := hb.trans (hb1.mono hb.size)
  clear hg hp hb1
  generalize (⟨w.heap.size, 0, none⟩ : Addr) = p at *
  have din : inB (n : Int) 0 400 = true := by simp [inB]; omega
  have dl : decide ((aa.length : Int) ≤ 16) = true := decide_eq_true (by omega)
  refine go ?_
  refine s_call3 (wn rfl) rfl rfl rfl rfl (within_any (n : Int) 0 400 _) ?_
  rintro _ _ ⟨rfl, rfl⟩
  rw [din]
  refine go ?_
  refine s_p (wy rfl rfl rfl rfl rfl known) rfl (y_fn1 rfl) ?_
  refine go ?_
  refine s_call2 (wy rfl rfl rfl rfl rfl known) rfl rfl rfl (ContainsFuncRL_any 85 _ (fun _ => false) _ _ _ hv2 (fun w' u wd hbw hwd hu => isSys1_any _ _ p n _ hu (cell_below hbx hbw) (hA wd hwd).1 (hA wd hwd).2)) ?_
  rintro _ w2 ⟨rfl, hb2⟩
  have sw2 := hb2.size
  replace hv2 := hv2.below hb2
  replace hbx := cell_below hbx hb2
  replace hb := hb.trans (hb2.mono hb.size)
  have hany : aa.any (fun _ => false) = false := by simp
  rw [hany]
  refine go ?_
  exact end_one Tryz.results46 rfl ⟨rfl, hb⟩

set_option maxHeartbeats 8000000 in
set_option maxRecDepth 100000 in
theorem OrbitLabels_good (v2 : Value) (m : Int) (aa : List (List Int)) (n : Nat) (w : World) (hv2 : RL w v2 aa) (em : m = n) (hn : n ≤ 400) (hal : aa.length ≤ 16) (hA : ∀ p ∈ aa, IsPerm p ∧ p.length = n) (hs : Sym n aa) :
    Ret Tryz.prog 10 #[.int .i64 m, v2] w fun r w' => ∃ x, r = .tuple #[x, .int .i64 0] ∧ OI w' w.heap.size 2 x (labs n aa) ∧ Below w.heap.size w w' := by
  have shv2 := hv2.sv
  have hb := Below.refl w.heap.size w
  refine enter2 19 Tryz.func10 rfl Tryz.ntmps10 rfl (fun fr => ?_)
  subst em
  refine go ?_
  refine s_call2 (wn rfl) rfl rfl rfl (isSystem_good _ _ _ n _ hv2 rfl hn hal hA) ?_
  rintro _ w1 ⟨rfl, hb1⟩
  have sw1 := hb1.size
  replace hv2 := hv2.below hb1
  replace hb := hb.trans (hb1.mono hb.size)
  have sz1 := hb.size
  refine go ?_
  refine s_call2 (wn rfl) rfl rfl rfl (orbitLabels_any _ _ _ _ hv2 hs (by omega) (by omega)) ?_
  rintro _ w2 ⟨lb, rfl, hx, hb2⟩
  have sw2 := hb2.size
  replace hv2 := hv2.below hb2
  replace hb := hb.trans (hb2.mono hb.size)
  refine go ?_
  exact end_two Tryz.results10 rfl rfl ⟨_, rfl, hx.mono sz1, hb⟩

set_option maxHeartbeats 8000000 in
set_option maxRecDepth 100000 in
theorem DrawQuotientBy_any (c : Value) (bs : List Int) (w : World) (hcl : CL w c bs) :
    Ret Tryz.prog 6 #[c] w fun r w' => ∃ x ms lv aa, r = .tuple #[.agg #[x], lv] ∧ RL w' x ms ∧ RL w' lv aa ∧ Below w.heap.size w w' := by
  have sc := hcl.sv
  refine enter1 59 Tryz.func6 rfl Tryz.ntmps6 rfl (fun fr => ?_)
  refine go2 ?_
  refine s_alloc (B := w.heap.size) (wn rfl) rfl (Nat.le_refl _) (fun w0 p2 hx2 hg0 hp2 => ?_)
  have hb0 := below_of_grownBy hg0
  have z0 := hb0.size
  have hlt2 := hx2.lt
  refine go2 ?_
  refine s_call1 (wn rfl) rfl rfl (l01From_any c bs _ (hcl.below hb0)) ?_
  rintro _ v0 ⟨q, rfl, hs, hbf⟩
  have zf := hbf.size
  have hql := hs.lt
  have hq1 := hs.low
  replace hx2 := hx2.below hbf
  obtain ⟨B, hBe⟩ : ∃ B, B = w0.heap.size := ⟨_, rfl⟩
  rw [← hBe] at hs
  have hB1 := hb0.trans (hbf.mono z0)
  refine go2 ?_
  refine s_call1 (wn rfl) rfl rfl (l06Even_any q B c bs _ hs) ?_
  rintro _ v1 ⟨x, xss, rfl, hm, hxl, hxr, hs', hgq⟩
  have zv1 := hgq.size
  replace hs := hs'
  replace hx2 := hx2.kept hgq (by intro e; have := Option.some.inj e; omega)
  have hg := hgq
  clear hgq
  replace hm := hm.mono (B' := v0.heap.size) (by omega)
  refine go2 ?_
  refine s_alloc (B := v0.heap.size) (wn rfl) rfl (by first | exact Nat.le_refl _ | omega) (fun v2 p5 hx5 hga hpp5 => ?_)
  have hba := below_of_grownBy hga
  have zv2 := hba.size
  replace hs := hs.below hba
  replace hx2 := hx2.below hba
  replace hm := hm.below hba
  replace hg := gr_step hg (grownBy_of_below hba none) (fun k hk => by cases hk)
  clear hba hga
  have hltp5 := hx5.lt
  refine go2 ?_
  refine s_storeBox (wn rfl) rfl rfl hm.sv.one hx5 (fun v3 hxN hgp => ?_)
  have zv3 := hgp.size
  replace hs := hs.kept hgp (fun k hk => by cases hk; exact ⟨by have := hs.low; omega, by omega⟩)
  replace hx2 := hx2.kept hgp (by intro e; have := Option.some.inj e; omega)
  replace hm := hm.box hx5 (by decide) (by decide) hgp
  replace hx5 := hxN
  replace hg := gr_step hg hgp (fun k hk => by cases hk; omega)
  clear hgp
  have hm := hm.top
  refine w_nil ?_
  refine then_normal ?_
  refine w_seq ?_
  refine meet (fun r w' => ∃ (x : Value) (xss : List (List Int)), r 2 = .pointer (some p2) ∧ r 4 = .pointer (some ⟨q, 0, none⟩) ∧ r 5 = .pointer (some p5) ∧ Bx w' w.heap.size p2 26 (.slice none 0 0) ∧ Bx w' v0.heap.size p5 26 x ∧ OM w' v0.heap.size w'.heap.size 32 2 x xss ∧ xss.length ≤ 6 ∧ (∀ xs ∈ xss, xs.length ≤ 1001) ∧ Sr w' B q 94 c bs ∧ v0.grownBy w' (some q)) ?_ ?_
  · refine go2 ?_
    refine s_call2 (wn rfl) rfl rfl rfl (l01Next_any q 3 B c bs _ hs (by omega)) ?_
    rintro _ v4 ⟨k, rfl, hk0, hk, hs', hgq⟩
    have zv4 := hgq.size
    replace hs := hs'
    replace hx2 := hx2.kept hgq (by intro e; have := Option.some.inj e; omega)
    replace hm := hm.kept hgq (by omega)
    replace hx5 := hx5.kept hgq (by intro e; have := Option.some.inj e; omega)
    replace hg := grownBy_trans hg hgq
    clear hgq
    have hk' := hk (by omega)
    refine go2 ?_
    refine cond_dec rfl (fun e0 => ?_) (fun e0 => ?_)
    · refine go2 ?_
      refine s_call2 (wn rfl) rfl rfl rfl (l01Next_any q 6 B c bs _ hs (by omega)) ?_
      rintro _ v5 ⟨k2, rfl, hk20, hk2, hs', hgq⟩
      have zv5 := hgq.size
      replace hs := hs'
      replace hx2 := hx2.kept hgq (by intro e; have := Option.some.inj e; omega)
      replace hm := hm.kept hgq (by omega)
      replace hx5 := hx5.kept hgq (by intro e; have := Option.some.inj e; omega)
      replace hg := grownBy_trans hg hgq
      clear hgq
      have hk2' := hk2 (by omega)
      refine go2 ?_
      refine s_p (wn rfl) rfl (y_mul rfl rfl (by constructor <;> omega)) ?_
      refine go2 ?_
      refine s_call1 (wn rfl) rfl rfl (l02Polygon_any (2 * (1 + k2)) (2 * (1 + k2)).toNat _ (by omega) (by omega) (by omega)) ?_
      rintro _ v6 ⟨y, yss, rfl, hd, hdl, hdy, hbq⟩
      have zv6 := hbq.size
      replace hs := hs.below hbq
      replace hx2 := hx2.below hbq
      replace hm := hm.below hbq
      replace hx5 := hx5.below hbq
      replace hg := gr_step hg (grownBy_of_below hbq none) (fun k hk => by cases hk)
      clear hbq
      replace hd := (hd.mono (B' := v0.heap.size) (by omega)).top
      refine go2 ?_
      clear hm
      refine s_storeBox (wn rfl) rfl rfl hd.sv.one hx5 (fun v7 hxN hgp => ?_)
      have zv7 := hgp.size
      replace hs := hs.kept hgp (fun k hk => by cases hk; exact ⟨by have := hs.low; omega, by omega⟩)
      replace hx2 := hx2.kept hgp (by intro e; have := Option.some.inj e; omega)
      replace hd := hd.box hx5 (by decide) (by decide) hgp
      replace hx5 := hxN
      replace hg := gr_step hg hgp (fun k hk => by cases hk; omega)
      clear hgp
      refine go2 ?_
      exact ⟨y, _, rfl, rfl, rfl, hx2, hx5, hd.top, by omega, fun xs h => by have := (hdy xs h).1; omega, hs, hg⟩
    refine go2 ?_
    exact ⟨x, _, rfl, rfl, rfl, hx2, hx5, hm.top, hxl, hxr, hs, hg⟩
  clear hs hg hx2 hx5 hm hxl hxr
  rintro r v8 ⟨x, xss, r2, r4, r5, hx2, hx5, hm, hxl, hxr, hs, hg⟩
  have zv8 := hg.size
  have hc5 := hx5.cell
  have hlt5 := hx5.lt
  have hlow5 := hx5.low
  have hlt2' := hx2.lt
  have sm := hm.sv
  refine know (t := 2) r2 ?_; refine know (t := 4) r4 ?_; refine know (t := 5) r5 ?_
  refine go2 ?_
  refine s_call1 (wn rfl) rfl rfl (l02Is_any _ _ _ hm.rl) ?_
  rintro _ v9 ⟨rfl, hbq⟩
  have zv9 := hbq.size
  replace hs := hs.below hbq
  replace hx2 := hx2.below hbq
  replace hx5 := hx5.below hbq
  replace hm := hm.below hbq
  replace hc5 := cell_below hc5 hbq
  replace hg := gr_step hg (grownBy_of_below hbq none) (fun k hk => by cases hk)
  clear hbq
  by_cases hM : IsMan xss
  rotate_left
  · have g1 := decide_eq_false hM
    refine go2 ?_
    refine go2 ?_
    refine s_build (B := v0.heap.size) [] (wn rfl) rfl (by simp) (by decide) rfl (by simp) (by first | exact Nat.le_refl _ | omega) (fun lv v10 hlo hga _ => ?_)
    have hba := below_of_grownBy hga
    have zv10 := hba.size
    replace hs := hs.below hba
    replace hx2 := hx2.below hba
    replace hx5 := hx5.below hba
    replace hm := hm.below hba
    replace hc5 := cell_below hc5 hba
    replace hg := gr_step hg (grownBy_of_below hba none) (fun k hk => by cases hk)
    clear hba hga
    have hl := OM.empty (E := v10.heap.size) (U := 2) hlo
    refine go2 ?_
    refine s_storeBox (wn rfl) rfl rfl hm.sv.one hx2 (fun v11 hxz hgz => ?_)
    have hmz := hm.box hx2 (by decide) (by decide) hgz
    have hlz := hl.box hx2 (by decide) (by decide) hgz
    have hB2 := hB1.trans (gr_below hg hB1.size (by omega))
    have hB3 := hB2.trans (hx2.below_of hgz hB2.size)
    refine go2 ?_
    exact end_cellT Tryz.results6 rfl rfl hxz.cell ⟨x, xss, lv, [], rfl, hmz.rl, hlz.rl, hB3⟩
  have g1 := decide_eq_true hM
  have f2 := hM.m0.f2
  have f4 := hM.m0.f400
  have r1 := hM.m0.r1
  refine go2 ?_
  refine s_call1 (wn rfl) rfl rfl (l06All_any _ _ _ hm.rl hM) ?_
  rintro av v12 ⟨ha, hbq⟩
  have zv12 := hbq.size
  replace hs := hs.below hbq
  replace hx2 := hx2.below hbq
  replace hx5 := hx5.below hbq
  replace hm := hm.below hbq
  replace hc5 := cell_below hc5 hbq
  replace hg := gr_step hg (grownBy_of_below hbq none) (fun k hk => by cases hk)
  clear hbq
  replace ha := (ha.mono (B' := v0.heap.size) (by omega)).top
  replace hm := hm.top
  have sa := ha.sv
  have hale : 1 ≤ (covers xss xss (nf xss)).length := List.length_pos_of_mem ((mem_auts hM).2 (Hom.idl hM))
  have hale2 := auts_le hM
  have harow : ∀ p ∈ covers xss xss (nf xss), p.length = nf xss := fun p h => ((mem_auts hM).1 h).len
  have hale3 : (covers xss xss (nf xss)).length ≤ 400 := by have : auts xss = covers xss xss (nf xss) := rfl; rw [← this]; omega
  generalize covers xss xss (nf xss) = A at *
  obtain ⟨Em, hEm⟩ : ∃ Em, Em = v12.heap.size := ⟨_, rfl⟩
  rw [← hEm] at ha hm
  have hmv : ∀ g, x.ownBlock = some g → g < Em := fun g h => by have := (hm.ownlt g h).2; omega
  have hav : ∀ g, av.ownBlock = some g → g < Em := fun g h => by have := (ha.ownlt g h).2; omega
  have h5m : p5.block < Em := by omega
  have h2m : p2.block < Em := by omega
  have hqm : q < Em := by omega
  have hvm : v0.heap.size ≤ Em := by omega
  have hEc : Em ≤ v12.heap.size := by omega
  refine go2 ?_
  refine s_build (B := Em) [] (wn rfl) rfl (by simp) (by decide) rfl (by simp) (by first | exact Nat.le_refl _ | omega) (fun lv v13 hlo hga _ => ?_)
  have hba := below_of_grownBy hga
  have zv13 := hba.size
  replace hs := hs.below hba
  replace hx2 := hx2.below hba
  replace hx5 := hx5.below hba
  replace hm := hm.below hba
  replace hc5 := cell_below hc5 hba
  replace ha := ha.below hba
  replace hg := gr_step hg (grownBy_of_below hba none) (fun k hk => by cases hk)
  clear hba hga
  have hl := OM.empty (E := v13.heap.size) (U := 2) hlo
  have hEc2 : Em ≤ v13.heap.size := by omega
  refine go2 ?_
  refine s_buildI (B := v0.heap.size) [0, 1, 1, 1, 1, 2] (wn rfl) rfl rfl rfl rfl (by omega) (fun tb v14 ht st hga _ => ?_)
  have hba := below_of_grownBy hga
  have zv14 := hba.size
  replace hs := hs.below hba
  replace hx2 := hx2.below hba
  replace hx5 := hx5.below hba
  replace hm := hm.below hba
  replace hc5 := cell_below hc5 hba
  replace ha := ha.below hba
  replace hl := hl.below hba
  replace hg := gr_step hg (grownBy_of_below hba none) (fun k hk => by cases hk)
  clear hba hga
  refine go2 ?_
  refine s_call2 (wn rfl) rfl rfl rfl (l01Pick_any q B c bs _ _ v0.heap.size _ ht hql (by simp) (by simp) hs) ?_
  rintro _ v15 ⟨z, hz, rfl, hs', hgq⟩
  have zv15 := hgq.size
  replace hs := hs'
  replace hx2 := hx2.kept hgq (by intro e; have := Option.some.inj e; omega)
  replace hx5 := hx5.kept hgq (by intro e; have := Option.some.inj e; omega)
  replace hm := hm.kept hgq (by omega)
  replace hc5 := cell_kept hc5 hgq (by intro e; have := Option.some.inj e; omega)
  replace ha := ha.kept hgq (by omega)
  replace hl := hl.kept hgq (by omega)
  replace ht := ht.kept hgq (ht.apart_blk (by omega))
  replace hg := grownBy_trans hg hgq
  clear hgq
  have hzz : 0 ≤ z ∧ z ≤ 2 := by simp at hz; omega
  clear ht
  have hl := hl.top
  refine go2 ?_
  refine w_loop (fun kk fr w' => ∃ (t : Nat) (lv : Value) (aa : List (List Int)), kk = z.toNat - t ∧ t ≤ z.toNat ∧ aa.length ≤ t ∧ fr 8 = .int .i64 (z - t) ∧ fr 2 = .pointer (some p2) ∧ fr 4 = .pointer (some ⟨q, 0, none⟩) ∧ fr 5 = .pointer (some p5) ∧ fr 6 = av ∧ fr 7 = lv ∧ Bx w' w.heap.size p2 26 (.slice none 0 0) ∧ Bx w' v0.heap.size p5 26 x ∧ OM w' v0.heap.size Em 32 2 x xss ∧ OM w' v0.heap.size Em 32 2 av A ∧ OM w' Em w'.heap.size 32 2 lv aa ∧ Sr w' B q 94 c bs ∧ v0.grownBy w' (some q) ∧ Em ≤ w'.heap.size) z.toNat
    ⟨0, lv, [], rfl, by omega, by simp, by show Value.int _ _ = _; congr 1; omega, rfl, rfl, rfl, rfl, rfl, hx2, hx5, hm, ha, hl, hs, hg, by omega⟩ ?_
  clear hs hg hx2 hx5 hm ha hl hlo hc5
  rintro kk fr v16 ⟨t, lv, aa, rfl, ht, hal, r8, r2, r4, r5, r6, r7, hx2, hx5, hm, ha, hl, hs, hg, hEl⟩
  have zv16 := hg.size
  have slv := hl.sv
  have hc5 := hx5.cell
  refine know (t := 2) r2 ?_; refine know (t := 4) r4 ?_; refine know (t := 5) r5 ?_; refine know (t := 6) r6 ?_; refine know (t := 7) r7 ?_; refine know (t := 8) r8 ?_
  refine go2 ?_
  refine cond_dec rfl (fun hlt => ?_) (fun hge => ?_)
  · refine go2 ?_
    refine s_call2 (wn rfl) rfl rfl rfl (l01Next_any q (A.length : Int) B c bs _ hs (by omega)) ?_
    rintro _ v17 ⟨y, rfl, hy0, hy, hs', hgq⟩
    have zv17 := hgq.size
    replace hs := hs'
    replace hx2 := hx2.kept hgq (by intro e; have := Option.some.inj e; omega)
    replace hx5 := hx5.kept hgq (by intro e; have := Option.some.inj e; omega)
    replace hm := hm.kept hgq (by omega)
    replace ha := ha.kept hgq (by omega)
    replace hl := hl.kept hgq (by omega)
    replace hc5 := cell_kept hc5 hgq (by intro e; have := Option.some.inj e; omega)
    replace hg := grownBy_trans hg hgq
    clear hgq
    have hy' := hy (by omega)
    replace hl := hl.top
    obtain ⟨u, hu, hcu⟩ := ha.rl.row (j := y) (by omega) (by omega)
    have hul : (gr A y).length = nf xss := harow _ (by have h9 := gr_in (xss := A) (j := y.toNat) (by omega); rwa [show ((y.toNat : Nat) : Int) = y by omega] at h9)
    have su := hu.sv
    refine go2 ?_
    refine s_call1 (wn rfl) rfl rfl (l01Own_any _ _ _ hu (by omega)) ?_
    rintro rv v18 ⟨hr, hbq⟩
    have zv18 := hbq.size
    replace hs := hs.below hbq
    replace hx2 := hx2.below hbq
    replace hx5 := hx5.below hbq
    replace hm := hm.below hbq
    replace ha := ha.below hbq
    replace hl := hl.below hbq
    replace hc5 := cell_below hc5 hbq
    replace hg := gr_step hg (grownBy_of_below hbq none) (fun k hk => by cases hk)
    clear hbq
    refine go2 ?_
    refine s_build1V (B := Em) (wn rfl) rfl rfl hr.sv.one (by omega) (fun tb v19 hto st hga _ => ?_)
    have hba := below_of_grownBy hga
    have zv19 := hba.size
    replace hs := hs.below hba
    replace hx2 := hx2.below hba
    replace hx5 := hx5.below hba
    replace hm := hm.below hba
    replace ha := ha.below hba
    replace hl := hl.below hba
    replace hc5 := cell_below hc5 hba
    replace hr := hr.below hba
    replace hg := gr_step hg (grownBy_of_below hba none) (fun k hk => by cases hk)
    replace hto := hto
    clear hba hga
    refine go2 ?_
    refine s_appendM (wn rfl) rfl rfl rfl hl hto.rd hr (by omega) (by decide) (by omega) (by omega) (fun lv2 v20 hlN slv2 hgN => ?_)
    have zN := hgN.size
    have hltN := fun g (e : lv.ownBlock = some g) => (hl.ownlt g e).1
    replace hs := hs.kept hgN (fun k hk => by have := hltN k hk; have := hs.low; omega)
    replace hx2 := hx2.kept hgN (fun e => by have := hltN _ e; omega)
    replace hx5 := hx5.kept hgN (fun e => by have := hltN _ e; omega)
    replace hm := hm.apart2 hmv hgN (fun g e => .inr (by have := hltN g e; omega))
    replace ha := ha.apart2 hav hgN (fun g e => .inr (by have := hltN g e; omega))
    replace hg := gr_step hg hgN (fun k hk => by have := hltN k hk; omega)
    replace hl := hlN
    clear hlN hgN
    refine go2 ?_
    exact ⟨z.toNat - (t + 1), by omega, t + 1, lv2, _, rfl, by omega, by rw [List.length_append]; simp; omega, by show Value.int _ _ = _; congr 1; omega, rfl, rfl, rfl, rfl, rfl, hx2, hx5, hm, ha, hl, hs, hg, by omega⟩
  clear hc5
  refine go2 ?_
  refine s_call2 (wn rfl) rfl rfl rfl (l01Next_any q 16 B c bs _ hs (by omega)) ?_
  rintro _ v21 ⟨y, rfl, hy0, hy, hs', hgq⟩
  have zv21 := hgq.size
  replace hs := hs'
  replace hx2 := hx2.kept hgq (by intro e; have := Option.some.inj e; omega)
  replace hx5 := hx5.kept hgq (by intro e; have := Option.some.inj e; omega)
  replace hm := hm.kept hgq (by omega)
  replace ha := ha.kept hgq (by omega)
  replace hl := hl.kept hgq (by omega)
  replace hg := grownBy_trans hg hgq
  clear hgq
  replace hl := hl.top
  have hc5 := hx5.cell
  refine go2 ?_
  refine cond_dec rfl (fun e1 => ?_) (fun e1 => ?_)
  · refine go2 ?_
    refine s_call1 (wn rfl) rfl rfl (l02Flags_any _ _ _ hm.rl (by omega)) ?_
    rintro _ v22 ⟨rfl, hbq⟩
    have zv22 := hbq.size
    replace hs := hs.below hbq
    replace hx2 := hx2.below hbq
    replace hx5 := hx5.below hbq
    replace hm := hm.below hbq
    replace ha := ha.below hbq
    replace hl := hl.below hbq
    replace hc5 := cell_below hc5 hbq
    replace hg := gr_step hg (grownBy_of_below hbq none) (fun k hk => by cases hk)
    clear hbq
    replace hl := hl.top
    refine go2 ?_
    refine s_call2 (wn rfl) rfl rfl rfl (l01Draw_any q B c bs (nf xss : Int) (nf xss) _ rfl (by omega) hs) ?_
    rintro pv v23 ⟨ps, hp, hpl, hpr, hs', hgq⟩
    have zv23 := hgq.size
    replace hs := hs'
    replace hx2 := hx2.kept hgq (by intro e; have := Option.some.inj e; omega)
    replace hx5 := hx5.kept hgq (by intro e; have := Option.some.inj e; omega)
    replace hm := hm.kept hgq (by omega)
    replace ha := ha.kept hgq (by omega)
    replace hl := hl.kept hgq (by omega)
    replace hc5 := cell_kept hc5 hgq (by intro e; have := Option.some.inj e; omega)
    replace hg := grownBy_trans hg hgq
    clear hgq
    refine go2 ?_
    refine s_build1V (B := Em) (wn rfl) rfl rfl hp.sv.one (by omega) (fun tb v24 hto st hga _ => ?_)
    have hba := below_of_grownBy hga
    have zv24 := hba.size
    replace hs := hs.below hba
    replace hx2 := hx2.below hba
    replace hx5 := hx5.below hba
    replace hm := hm.below hba
    replace ha := ha.below hba
    replace hl := hl.below hba
    replace hc5 := cell_below hc5 hba
    replace hp := hp.below hba
    replace hg := gr_step hg (grownBy_of_below hba none) (fun k hk => by cases hk)
    replace hto := hto
    clear hba hga
    refine go2 ?_
    refine s_appendM (wn rfl) rfl rfl rfl hl hto.rd hp (by omega) (by decide) (by omega) (by omega) (fun lv2 v25 hlN slv2 hgN => ?_)
    have zN := hgN.size
    have hltN := fun g (e : lv.ownBlock = some g) => (hl.ownlt g e).1
    replace hs := hs.kept hgN (fun k hk => by have := hltN k hk; have := hs.low; omega)
    replace hx2 := hx2.kept hgN (fun e => by have := hltN _ e; omega)
    replace hx5 := hx5.kept hgN (fun e => by have := hltN _ e; omega)
    replace hm := hm.apart2 hmv hgN (fun g e => .inr (by have := hltN g e; omega))
    replace ha := ha.apart2 hav hgN (fun g e => .inr (by have := hltN g e; omega))
    replace hg := gr_step hg hgN (fun k hk => by have := hltN k hk; omega)
    replace hl := hlN
    clear hlN hgN
    have hc5 := hx5.cell
    refine go2 ?_
    refine s_storeBox (wn rfl) rfl rfl hm.sv.one hx2 (fun v26 hxz hgz => ?_)
    have hmz := hm.box hx2 (by decide) (by decide) hgz
    have hlz := hl.box hx2 (by decide) (by decide) hgz
    have hB2 := hB1.trans (gr_below hg hB1.size (by omega))
    have hB3 := hB2.trans (hx2.below_of hgz hB2.size)
    refine go2 ?_
    exact end_cellT Tryz.results6 rfl rfl hxz.cell ⟨x, xss, lv2, _, rfl, hmz.rl, hlz.rl, hB3⟩
  refine go2 ?_
  refine s_storeBox (wn rfl) rfl rfl hm.sv.one hx2 (fun v27 hxz hgz => ?_)
  have hmz := hm.box hx2 (by decide) (by decide) hgz
  have hlz := hl.box hx2 (by decide) (by decide) hgz
  have hB2 := hB1.trans (gr_below hg hB1.size (by omega))
  have hB3 := hB2.trans (hx2.below_of hgz hB2.size)
  refine go2 ?_
  exact end_cellT Tryz.results6 rfl rfl hxz.cell ⟨x, xss, lv, _, rfl, hmz.rl, hlz.rl, hB3⟩

end Go.Proofs.YtablpijnjkncfaaGreat
