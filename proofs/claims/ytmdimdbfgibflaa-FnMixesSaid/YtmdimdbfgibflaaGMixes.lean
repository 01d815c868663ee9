/- The general law of MixAt, for every code: its walk and its row. No conditions. -/
import Derived.Test.YtmdimdbfgibflaaF80
import Derived.Test.YtmdimdbfgibflaaF87
import Derived.Test.YtmdimdbfgibflaaF70
import Derived.Test.YtmdimdbfgibflaaFE
import Derived.Test.YtmdimdbfgibflaaF46
import Derived.Test.YtmdimdbfgibflaaF59
import Derived.Test.YtmdimdbfgibflaaF72
import Derived.Test.YtmdimdbfgibflaaPF
import Derived.Test.YtmdimdbfgibflaaRA
import Derived.WalkKit
import Derived.ShutString
namespace Go.Proofs.Ytmdimdbfgibflaa
open Go.Mem Go.ChangeShapes Go.WideShapes Go.ChangeAt Go.RowKit
set_option linter.unusedVariables false
set_option linter.unusedSimpArgs false

theorem doesNo_yes {ms : List (List Int)} {wd : List Int} (hm : IsMan ms) (hw : IsWord ms wd) : doesNo ms wd = decide (Still ms wd) := if_pos ⟨hm, hw⟩
theorem mixes_all {ms ks : List (List Int)} {f g : Int} (h : mixC ms ks f g = 0) : (IsMan ms ∧ IsMan ks) ∧ ∃ (X PP : List (List Int)) (F G : List Int), mixL ms ks f g = X ∧ mixP ms ks f g = PP ∧ (IsMan X ∧ X.length = ms.length ∧ ks.length = ms.length) ∧ (PP.length = nf X ∧ F.length = nf X ∧ G.length = nf X) ∧
    (∀ i : Nat, i < nf X → (gr PP i).length = 2 ∧ gi (gr PP i) 0 = gi F i ∧ gi (gr PP i) 1 = gi G i) ∧ (mixC ks ms g f = 0 ∧ mixL ks ms g f = X) ∧ (mixC X ms 0 f = 0 ∧ mixL X ms 0 f = X) ∧ (isCovB X ms F = true ∧ manC2 X ms = 0) ∧ (isCovB X ks G = true ∧ manC2 X ks = 0) ∧ gi F 0 = f ∧ gi G 0 = g ∧
    ∀ wd : List Int, (∀ x ∈ wd, 0 ≤ x ∧ x < ms.length) → wd.length ≤ 64 → doesNo X wd = (if doesNo ms wd = true then doesNo ks wd else false) ∧ wordC X wd = 0 ∧ wordC ms wd = 0 ∧ wordC ks wd = 0 := by
  obtain ⟨hm, hk, hf, hg, hl, hle⟩ := mixC_0 h
  have hX := mix_man h
  obtain ⟨e1, e2, _⟩ := mix_facts h
  obtain ⟨_, _, g0, g1⟩ := mix_hom h
  have hcv := mix_cov h
  have c1 := isCovB_2 (xs := mixF ms ks f g) hX hm
  have c2 := isCovB_2 (xs := mixS ms ks f g) hX hk
  have eP : mixP ms ks f g = (mixO ms ks f g).map fun c : Int => [c / (nf ks : Int), c % (nf ks : Int)] := if_pos h
  refine ⟨⟨hm, hk⟩, _, _, mixF ms ks f g, mixS ms ks f g, rfl, rfl, ⟨hX, e2, hl.symm⟩, ⟨by rw [eP, List.length_map]; exact e1.symm, by unfold mixF; rw [List.length_map]; exact e1.symm, by unfold mixS; rw [List.length_map]; exact e1.symm⟩, fun i hi => ?_, mix_swap h, mix_again h, ⟨by rw [c1.1]; exact decide_eq_true hcv.1, c1.2⟩, ⟨by rw [c2.1]; exact decide_eq_true hcv.2, c2.2⟩, g0, g1, fun wd hr h64 => ?_⟩
  · have hi2 : i < (mixO ms ks f g).length := by omega
    have er : gr (mixP ms ks f g) i = [gi (mixO ms ks f g) i / (nf ks : Int), gi (mixO ms ks f g) i % (nf ks : Int)] := by rw [eP]; simp [gr, gi, List.getD, hi2]
    rw [er]
    refine ⟨rfl, ?_, ?_⟩
    · show gi (mixO ms ks f g) i / (nf ks : Int) = _
      unfold mixF; simp [gi, List.getD, hi2]
    · show gi (mixO ms ks f g) i % (nf ks : Int) = _
      unfold mixS; simp [gi, List.getD, hi2]
  · have w1 : IsWord ms wd := ⟨h64, hr⟩
    have w2 : IsWord ks wd := ⟨h64, fun x hx => by have := hr x hx; omega⟩
    have w3 : IsWord (mixL ms ks f g) wd := ⟨h64, fun x hx => by have := hr x hx; omega⟩
    have hs := mix_still h hr
    rw [doesNo_yes hX w3, doesNo_yes hm w1, doesNo_yes hk w2]
    refine ⟨?_, (word_3 hX w3).2, (word_3 hm w1).2, (word_3 hk w2).2⟩
    by_cases s1 : Still ms wd
    · rw [decide_eq_true s1, if_pos rfl]
      exact decide_eq_decide.2 ⟨fun h => (hs.1 h).2, fun h => hs.2 ⟨s1, h⟩⟩
    · rw [decide_eq_false s1, if_neg (by decide)]
      exact decide_eq_false fun h => s1 (hs.1 h).1

set_option maxHeartbeats 16000000 in
set_option maxRecDepth 100000 in
theorem lawMixes_any (c : Value) (bs : List Int) (w : World) (hcl : CL w c bs) :
    Ret Try.prog 7 #[c] w fun r w' => r = .bool true ∧ Below w.heap.size w w' := by
  have shcl := hcl.sv
  have hb := Below.refl w.heap.size w
  refine enter1 251 Try.func7 rfl Try.ntmps7 rfl (fun fr => ?_)
  refine go ?_
  refine s_call1 (wn rfl) rfl rfl (big_any _ _ _ hcl) ?_
  rintro _ _ ⟨rfl, rfl⟩
  refine go ?_
  refine cond_dec rfl (fun hbig => ?_) (fun hbig => ?_)
  · refine go ?_
    exact end_one Try.results7 rfl ⟨rfl, hb⟩
  refine go ?_
  refine s_call1 (wn rfl) rfl rfl (DrawMixAt_any _ _ _ hcl) ?_
  rintro _ w1 ⟨x, y, fl, gl, ms, ks, rfl, hv, hv2, hb1⟩
  have sw1 := hb1.size
  replace hcl := hcl.below hb1
  replace hb := hb.trans (hb1.mono hb.size)
  have shv := hv.sv
  have shv2 := hv2.sv
  refine go ?_
  refine s_p (wn rfl) rfl (y_x40 rfl) ?_
  refine s_p (wn rfl) rfl (y_x41 rfl) ?_
  refine s_p (wn rfl) rfl (y_x42 rfl) ?_
  refine s_p (wn rfl) rfl (y_x43 rfl) ?_
  refine go ?_
  refine s_alloc (B := w1.heap.size) (wn rfl) rfl (Nat.le_refl _) (fun a1 p3 hx3 ga1 hp3 => ?_)
  have ba := below_of_grownBy ga1
  refine go ?_
  refine s_alloc (B := w1.heap.size) (wn rfl) rfl ba.size (fun a2 p5 hx5 ga2 hp5 => ?_)
  have ba2 := below_of_grownBy ga2
  have zlt3 := hx3.lt
  replace hx3 := hx3.below ba2
  have bb := ba.trans (ba2.mono ba.size)
  have zba := ba.size
  have zba2 := ba2.size
  have hltpq : p3.block < p5.block := by have e4 := hp5; omega
  refine go ?_
  refine s_storeBox (wn rfl) rfl rfl shv.one hx3 (fun a3 hx3b ga3 => ?_)
  have bc := bb.trans (hx3.below_of ga3 bb.size)
  replace hx5 := hx5.kept ga3 (by intro e; have := Option.some.inj e; omega)
  refine go ?_
  refine s_storeBox (wn rfl) rfl rfl shv2.one hx5 (fun a4 hx5b ga4 => ?_)
  have bd := bc.trans (hx5.below_of ga4 bc.size)
  have hc5 := hx5b.cell
  have hc3 := (hx3b.kept ga4 (by intro e; have := Option.some.inj e; omega)).cell
  have sw2 := bd.size
  replace hcl := hcl.below bd
  replace hv := hv.below bd
  replace hv2 := hv2.below bd
  replace hb := hb.trans (bd.mono hb.size)
  refine go ?_
  refine s_call4 (wn rfl) rfl rfl rfl rfl rfl (implMixAt_any _ _ _ fl _ gl _ hv hv2) ?_
  rintro _ w3 ⟨kx, rfl, hA, hb3⟩
  have sw3 := hb3.size
  replace hcl := hcl.below hb3
  replace hv := hv.below hb3
  replace hv2 := hv2.below hb3
  replace hc3 := cell_below hc3 hb3
  replace hc5 := cell_below hc5 hb3
  replace hb := hb.trans (hb3.mono hb.size)
  refine go ?_
  refine s_alloc (B := w3.heap.size) (wn rfl) rfl (Nat.le_refl _) (fun w4 p7 hx7 hg4 hpp7 => ?_)
  have hb4 := below_of_grownBy hg4
  refine go ?_
  refine s_storeBox (wn rfl) rfl rfl hA.sv.one hx7 (fun w5 hx7b hg7 => ?_)
  have hbq7 := hb4.trans (hx7.below_of hg7 hb4.size)
  have sw5 := hbq7.size
  replace hcl := hcl.below hbq7
  replace hv := hv.below hbq7
  replace hv2 := hv2.below hbq7
  replace hc3 := cell_below hc3 hbq7
  replace hc5 := cell_below hc5 hbq7
  replace hA := hA.below hbq7
  replace hb := hb.trans (hbq7.mono hb.size)
  have hc7 := hx7b.cell
  refine go ?_
  refine s_call4 (wn rfl) rfl rfl rfl rfl rfl (specMixAt_any _ _ _ fl _ gl _ hv hv2) ?_
  rintro _ w6 ⟨ky, rfl, hA2, hb6⟩
  have sw6 := hb6.size
  replace hcl := hcl.below hb6
  replace hv := hv.below hb6
  replace hv2 := hv2.below hb6
  replace hc3 := cell_below hc3 hb6
  replace hc5 := cell_below hc5 hb6
  replace hA := hA.below hb6
  replace hc7 := cell_below hc7 hb6
  replace hb := hb.trans (hb6.mono hb.size)
  refine go ?_
  refine s_alloc (B := w6.heap.size) (wn rfl) rfl (Nat.le_refl _) (fun w7 p9 hx9 hg7 hpp9 => ?_)
  have hb7 := below_of_grownBy hg7
  refine go ?_
  refine s_storeBox (wn rfl) rfl rfl hA2.sv.one hx9 (fun w8 hx9b hg9 => ?_)
  have hbq9 := hb7.trans (hx9.below_of hg9 hb7.size)
  have sw8 := hbq9.size
  replace hcl := hcl.below hbq9
  replace hv := hv.below hbq9
  replace hv2 := hv2.below hbq9
  replace hc3 := cell_below hc3 hbq9
  replace hc5 := cell_below hc5 hbq9
  replace hA := hA.below hbq9
  replace hc7 := cell_below hc7 hbq9
  replace hA2 := hA2.below hbq9
  replace hb := hb.trans (hbq9.mono hb.size)
  have hc9 := hx9b.cell
  have hn1 : ¬ (mixC ms ks fl gl ≠ mixC ms ks fl gl) := fun h => h rfl
  have he1 : decide (mixL ms ks fl gl = mixL ms ks fl gl) = true := decide_eq_true rfl
  refine go ?_
  refine s_call2 (wy rfl rfl rfl rfl rfl known) rfl rfl rfl (like5_any _ _ _ _ _ hA.rl hA2.rl) ?_
  rintro _ w9 ⟨rfl, hb9⟩
  have sw9 := hb9.size
  replace hcl := hcl.below hb9
  replace hv := hv.below hb9
  replace hv2 := hv2.below hb9
  replace hc3 := cell_below hc3 hb9
  replace hc5 := cell_below hc5 hb9
  replace hA := hA.below hb9
  replace hc7 := cell_below hc7 hb9
  replace hA2 := hA2.below hb9
  replace hc9 := cell_below hc9 hb9
  replace hb := hb.trans (hb9.mono hb.size)
  rw [he1]
  refine go ?_
  refine cond_dec rfl (fun hne => ?_) (fun hne => ?_)
  · refine go ?_
    exact end_one Try.results7 rfl ⟨rfl, hb⟩
  have hc0 : mixC ms ks fl gl = 0 := Decidable.not_not.1 hne
  obtain ⟨⟨hm, hk⟩, X, PP, F, G, eX, eP, ⟨mX, lX, lk⟩, ⟨lP, lF, lG⟩, hrow, ⟨cS, eS⟩, ⟨cN, eN⟩, ⟨eC, cC⟩, ⟨eD, cD⟩, gF, gG, hwd⟩ := mixes_all hc0
  have r1 := hm.m0.r1
  have r5 := hm.m0.r5
  have f4 := mX.m0.f400
  have f2 := mX.m0.f2
  have x1 := mX.m0.r1
  rw [eX] at hA
  have z0 : ¬ ((0 : Int) ≠ 0) := fun h => h rfl
  have z1 : (0 : Int) = 0 := rfl
  have z2 : decide ((0 : Int) = 0) = true := decide_eq_true rfl
  have kX : decide (X = X) = true := decide_eq_true rfl
  have dX := decide_eq_true mX
  have kn : ¬ ((nf X : Int) ≠ nf X) := fun h => h rfl
  rw [hc0]
  refine go ?_
  refine s_call4 (wn rfl) rfl rfl rfl rfl rfl (implMixPairs_any _ _ _ fl _ gl _ hv hv2) ?_
  rintro _ w10 ⟨px, rfl, hP, hb10⟩
  have sw10 := hb10.size
  replace hcl := hcl.below hb10
  replace hv := hv.below hb10
  replace hv2 := hv2.below hb10
  replace hc3 := cell_below hc3 hb10
  replace hc5 := cell_below hc5 hb10
  replace hA := hA.below hb10
  replace hc7 := cell_below hc7 hb10
  replace hb := hb.trans (hb10.mono hb.size)
  rw [eP] at hP
  rw [hc0]
  have sP := hP.sv
  rw [lP] at sP
  refine go ?_
  refine s_call4 (wn rfl) rfl rfl rfl rfl rfl (implMixAt_any _ _ _ gl _ fl _ hv2 hv) ?_
  rintro _ w11 ⟨sx, rfl, hS, hb11⟩
  have sw11 := hb11.size
  replace hcl := hcl.below hb11
  replace hv := hv.below hb11
  replace hv2 := hv2.below hb11
  replace hc3 := cell_below hc3 hb11
  replace hc5 := cell_below hc5 hb11
  replace hA := hA.below hb11
  replace hc7 := cell_below hc7 hb11
  replace hP := hP.below hb11
  replace hb := hb.trans (hb11.mono hb.size)
  rw [eS] at hS
  rw [cS]
  refine go ?_
  refine s_alloc (B := w11.heap.size) (wn rfl) rfl (Nat.le_refl _) (fun w12 p13 hx13 hg12 hpp13 => ?_)
  have hb12 := below_of_grownBy hg12
  refine go ?_
  refine s_storeBox (wn rfl) rfl rfl hS.sv.one hx13 (fun w13 hx13b hg13 => ?_)
  have hbq13 := hb12.trans (hx13.below_of hg13 hb12.size)
  have sw13 := hbq13.size
  replace hcl := hcl.below hbq13
  replace hv := hv.below hbq13
  replace hv2 := hv2.below hbq13
  replace hc3 := cell_below hc3 hbq13
  replace hc5 := cell_below hc5 hbq13
  replace hA := hA.below hbq13
  replace hc7 := cell_below hc7 hbq13
  replace hP := hP.below hbq13
  replace hS := hS.below hbq13
  replace hb := hb.trans (hbq13.mono hb.size)
  have hc13 := hx13b.cell
  refine go ?_
  refine s_call4 (wn rfl) rfl rfl rfl rfl rfl (implMixAt_any _ _ _ 0 _ fl _ hA.rl hv) ?_
  rintro _ w14 ⟨nx, rfl, hN, hb14⟩
  have sw14 := hb14.size
  replace hcl := hcl.below hb14
  replace hv := hv.below hb14
  replace hv2 := hv2.below hb14
  replace hc3 := cell_below hc3 hb14
  replace hc5 := cell_below hc5 hb14
  replace hA := hA.below hb14
  replace hc7 := cell_below hc7 hb14
  replace hP := hP.below hb14
  replace hS := hS.below hb14
  replace hc13 := cell_below hc13 hb14
  replace hb := hb.trans (hb14.mono hb.size)
  rw [eN] at hN
  rw [cN]
  refine go ?_
  refine s_alloc (B := w14.heap.size) (wn rfl) rfl (Nat.le_refl _) (fun w15 p15 hx15 hg15 hpp15 => ?_)
  have hb15 := below_of_grownBy hg15
  refine go ?_
  refine s_storeBox (wn rfl) rfl rfl hN.sv.one hx15 (fun w16 hx15b hg15 => ?_)
  have hbq15 := hb15.trans (hx15.below_of hg15 hb15.size)
  have sw16 := hbq15.size
  replace hcl := hcl.below hbq15
  replace hv := hv.below hbq15
  replace hv2 := hv2.below hbq15
  replace hc3 := cell_below hc3 hbq15
  replace hc5 := cell_below hc5 hbq15
  replace hA := hA.below hbq15
  replace hc7 := cell_below hc7 hbq15
  replace hP := hP.below hbq15
  replace hS := hS.below hbq15
  replace hc13 := cell_below hc13 hbq15
  replace hN := hN.below hbq15
  replace hb := hb.trans (hbq15.mono hb.size)
  have hc15 := hx15b.cell
  refine go ?_
  refine s_call1 (wy rfl rfl rfl rfl rfl known) rfl rfl (flags5_any _ _ _ hA.rl x1) ?_
  rintro _ w17 ⟨rfl, hb17⟩
  have sw17 := hb17.size
  replace hcl := hcl.below hb17
  replace hv := hv.below hb17
  replace hv2 := hv2.below hb17
  replace hc3 := cell_below hc3 hb17
  replace hc5 := cell_below hc5 hb17
  replace hA := hA.below hb17
  replace hc7 := cell_below hc7 hb17
  replace hP := hP.below hb17
  replace hS := hS.below hb17
  replace hc13 := cell_below hc13 hb17
  replace hN := hN.below hb17
  replace hc15 := cell_below hc15 hb17
  replace hb := hb.trans (hb17.mono hb.size)
  refine go ?_
  refine s_call1 (wy rfl rfl rfl rfl rfl known) rfl rfl (IsManiplex_any _ _ _ hA.rl) ?_
  rintro _ w18 ⟨rfl, hb18⟩
  have sw18 := hb18.size
  replace hcl := hcl.below hb18
  replace hv := hv.below hb18
  replace hv2 := hv2.below hb18
  replace hc3 := cell_below hc3 hb18
  replace hc5 := cell_below hc5 hb18
  replace hA := hA.below hb18
  replace hc7 := cell_below hc7 hb18
  replace hP := hP.below hb18
  replace hS := hS.below hb18
  replace hc13 := cell_below hc13 hb18
  replace hN := hN.below hb18
  replace hc15 := cell_below hc15 hb18
  replace hb := hb.trans (hb18.mono hb.size)
  rw [dX]
  refine go ?_
  refine s_call2 (wy rfl rfl rfl rfl rfl known) rfl rfl rfl (like5_any _ _ _ _ _ hS.rl hA.rl) ?_
  rintro _ w19 ⟨rfl, hb19⟩
  have sw19 := hb19.size
  replace hcl := hcl.below hb19
  replace hv := hv.below hb19
  replace hv2 := hv2.below hb19
  replace hc3 := cell_below hc3 hb19
  replace hc5 := cell_below hc5 hb19
  replace hA := hA.below hb19
  replace hc7 := cell_below hc7 hb19
  replace hP := hP.below hb19
  replace hS := hS.below hb19
  replace hc13 := cell_below hc13 hb19
  replace hN := hN.below hb19
  replace hc15 := cell_below hc15 hb19
  replace hb := hb.trans (hb19.mono hb.size)
  rw [kX]
  refine go ?_
  refine s_call2 (wy rfl rfl rfl rfl rfl known) rfl rfl rfl (like5_any _ _ _ _ _ hN.rl hA.rl) ?_
  rintro _ w20 ⟨rfl, hb20⟩
  have sw20 := hb20.size
  replace hcl := hcl.below hb20
  replace hv := hv.below hb20
  replace hv2 := hv2.below hb20
  replace hc3 := cell_below hc3 hb20
  replace hc5 := cell_below hc5 hb20
  replace hA := hA.below hb20
  replace hc7 := cell_below hc7 hb20
  replace hP := hP.below hb20
  replace hS := hS.below hb20
  replace hc13 := cell_below hc13 hb20
  replace hN := hN.below hb20
  replace hc15 := cell_below hc15 hb20
  replace hb := hb.trans (hb20.mono hb.size)
  rw [kX]
  refine go ?_
  have sbs1 := hb.size
  have hcl_b1 := hcl
  have hv_b1 := hv
  have hv2_b1 := hv2
  have hc3_b1 := hc3
  have hc5_b1 := hc5
  have hA_b1 := hA
  have hc7_b1 := hc7
  have hP_b1 := hP
  have hS_b1 := hS
  have hc13_b1 := hc13
  have hN_b1 := hN
  have hc15_b1 := hc15
  have hbB1 := Below.refl w20.heap.size w20
  refine s_build0 (B := w20.heap.size) (wn rfl) rfl (Nat.le_refl _) (fun fb w21 hF so hg21 _ => ?_)
  have hb21 := below_of_grownBy hg21
  have sw21 := hb21.size
  replace hcl := hcl.below hb21
  replace hv := hv.below hb21
  replace hv2 := hv2.below hb21
  replace hc3 := cell_below hc3 hb21
  replace hc5 := cell_below hc5 hb21
  replace hA := hA.below hb21
  replace hc7 := cell_below hc7 hb21
  replace hP := hP.below hb21
  replace hS := hS.below hb21
  replace hc13 := cell_below hc13 hb21
  replace hN := hN.below hb21
  replace hc15 := cell_below hc15 hb21
  replace hbB1 := hbB1.trans (hb21.mono hbB1.size)
  have hFlt := fun g hg => (hF.lt g hg).2
  refine go ?_
  refine s_build0 (B := w20.heap.size) (wn rfl) rfl hbB1.size (fun gb w22 hG so hg22 hobn => ?_)
  have hap := (Ap.new hFlt hobn).symm
  have hb22 := below_of_grownBy hg22
  have sw22 := hb22.size
  replace hcl := hcl.below hb22
  replace hv := hv.below hb22
  replace hv2 := hv2.below hb22
  replace hc3 := cell_below hc3 hb22
  replace hc5 := cell_below hc5 hb22
  replace hA := hA.below hb22
  replace hc7 := cell_below hc7 hb22
  replace hP := hP.below hb22
  replace hS := hS.below hb22
  replace hc13 := cell_below hc13 hb22
  replace hN := hN.below hb22
  replace hc15 := cell_below hc15 hb22
  replace hF := hF.below hb22
  replace hbB1 := hbB1.trans (hb22.mono hbB1.size)
  refine go ?_
  refine w_loop (fun kk fr w' => ∃ (i : Nat) (fb : Value) (gb : Value), kk = nf X - i ∧ i ≤ nf X ∧ fr 0 = c ∧ fr 3 = .pointer (some p3) ∧ fr 4 = .int .i64 fl ∧ fr 5 = .pointer (some p5) ∧ fr 6 = .int .i64 gl ∧ fr 7 = .pointer (some p7) ∧ fr 11 = px ∧ fr 17 = fb ∧ fr 18 = gb ∧ fr 19 = .int .i64 i ∧ (OI w' w20.heap.size 2 fb (F.take i)) ∧ (OI w' w20.heap.size 2 gb (G.take i)) ∧ (Ap gb fb) ∧ Below w20.heap.size w20 w') (nf X)
    ⟨0, fb, gb, rfl, Nat.zero_le _, rfl, rfl, rfl, rfl, rfl, rfl, rfl, rfl, rfl, rfl, hF, hG, hap, hbB1⟩ ?_
  rintro kk fr w23 ⟨i, fb, gb, rfl, hi, f0, f3, f4, f5, f6, f7, f11, f17, f18, f19, hF, hG, hap, hbB1⟩
  have sw23 := hbB1.size
  have hcl := hcl_b1.below hbB1
  have hv := hv_b1.below hbB1
  have hv2 := hv2_b1.below hbB1
  have hc3 := cell_below hc3_b1 hbB1
  have hc5 := cell_below hc5_b1 hbB1
  have hA := hA_b1.below hbB1
  have hc7 := cell_below hc7_b1 hbB1
  have hP := hP_b1.below hbB1
  have hS := hS_b1.below hbB1
  have hc13 := cell_below hc13_b1 hbB1
  have hN := hN_b1.below hbB1
  have hc15 := cell_below hc15_b1 hbB1
  have shF := hF.sv
  have shG := hG.sv
  refine know (t := 0) f0 ?_; refine know (t := 3) f3 ?_; refine know (t := 4) f4 ?_; refine know (t := 5) f5 ?_; refine know (t := 6) f6 ?_; refine know (t := 7) f7 ?_; refine know (t := 11) f11 ?_; refine know (t := 17) f17 ?_; refine know (t := 18) f18 ?_; refine know (t := 19) f19 ?_
  refine go ?_
  refine cond_dec rfl (fun hlt => ?_) (fun hge => ?_)
  · obtain ⟨t1, t2, t3⟩ := hrow i (by omega)
    have k2 : ¬ ((((2 : Nat) : Int)) ≠ 2) := fun h => h rfl
    obtain ⟨ru, hru, hcru⟩ := hP.rl.row (j := (i : Int)) (by omega) (by omega)
    have sru := hru.sv
    rw [t1] at sru
    refine go ?_
    rw [t2]
    have szq24 := hbB1.size
    refine s_build1 (B := w20.heap.size) (wn rfl) rfl rfl szq24 (fun tb w24 ht st hg24 _ => ?_)
    have hb24 := below_of_grownBy hg24
    have sw24 := hb24.size
    replace hcl := hcl.below hb24
    replace hv := hv.below hb24
    replace hv2 := hv2.below hb24
    replace hc3 := cell_below hc3 hb24
    replace hc5 := cell_below hc5 hb24
    replace hA := hA.below hb24
    replace hc7 := cell_below hc7 hb24
    replace hP := hP.below hb24
    replace hS := hS.below hb24
    replace hc13 := cell_below hc13 hb24
    replace hN := hN.below hb24
    replace hc15 := cell_below hc15 hb24
    replace hF := hF.below hb24
    replace hG := hG.below hb24
    replace hru := hru.below hb24
    replace hcru := cell_below hcru hb24
    replace hbB1 := hbB1.trans (hb24.mono hbB1.size)
    have szq25 := hbB1.size
    refine s_appendI (wn rfl) rfl rfl rfl hF ht.il (by simp; omega) szq25 (fun fb' w25 hoN so hgN hgrow => ?_)
    replace hbB1 := hbB1.trans (hF.below_of hgN szq25)
    have hltk := fun g hg => (hG.lt g hg).2
    replace hG := hG.kept hgN hap
    replace hap := hap.grow hltk hgrow
    clear hltk
    have sw25 := hgN.size
    replace hF := hoN
    clear hoN hgrow
    replace hcl := hcl_b1.below hbB1
    replace hv := hv_b1.below hbB1
    replace hv2 := hv2_b1.below hbB1
    replace hc3 := cell_below hc3_b1 hbB1
    replace hc5 := cell_below hc5_b1 hbB1
    replace hA := hA_b1.below hbB1
    replace hc7 := cell_below hc7_b1 hbB1
    replace hP := hP_b1.below hbB1
    replace hS := hS_b1.below hbB1
    replace hc13 := cell_below hc13_b1 hbB1
    replace hN := hN_b1.below hbB1
    replace hc15 := cell_below hc15_b1 hbB1
    replace hap := hap.symm
    obtain ⟨rv, hrv, hcrv⟩ := hP.rl.row (j := (i : Int)) (by omega) (by omega)
    have srv := hrv.sv
    rw [t1] at srv
    refine go ?_
    rw [t3]
    have szq26 := hbB1.size
    refine s_build1 (B := w20.heap.size) (wn rfl) rfl rfl szq26 (fun tb w26 ht st hg26 _ => ?_)
    have hb26 := below_of_grownBy hg26
    have sw26 := hb26.size
    replace hcl := hcl.below hb26
    replace hv := hv.below hb26
    replace hv2 := hv2.below hb26
    replace hc3 := cell_below hc3 hb26
    replace hc5 := cell_below hc5 hb26
    replace hA := hA.below hb26
    replace hc7 := cell_below hc7 hb26
    replace hP := hP.below hb26
    replace hS := hS.below hb26
    replace hc13 := cell_below hc13 hb26
    replace hN := hN.below hb26
    replace hc15 := cell_below hc15 hb26
    replace hF := hF.below hb26
    replace hG := hG.below hb26
    replace hrv := hrv.below hb26
    replace hcrv := cell_below hcrv hb26
    replace hbB1 := hbB1.trans (hb26.mono hbB1.size)
    have szq27 := hbB1.size
    refine s_appendI (wn rfl) rfl rfl rfl hG ht.il (by simp; omega) szq27 (fun gb' w27 hoN so hgN hgrow => ?_)
    replace hbB1 := hbB1.trans (hG.below_of hgN szq27)
    have hltk := fun g hg => (hF.lt g hg).2
    replace hF := hF.kept hgN hap
    replace hap := hap.grow hltk hgrow
    clear hltk
    have sw27 := hgN.size
    replace hG := hoN
    clear hoN hgrow
    replace hcl := hcl_b1.below hbB1
    replace hv := hv_b1.below hbB1
    replace hv2 := hv2_b1.below hbB1
    replace hc3 := cell_below hc3_b1 hbB1
    replace hc5 := cell_below hc5_b1 hbB1
    replace hA := hA_b1.below hbB1
    replace hc7 := cell_below hc7_b1 hbB1
    replace hP := hP_b1.below hbB1
    replace hS := hS_b1.below hbB1
    replace hc13 := cell_below hc13_b1 hbB1
    replace hN := hN_b1.below hbB1
    replace hc15 := cell_below hc15_b1 hbB1
    refine go ?_
    refine ⟨nf X - (i + 1), by omega, i + 1, fb', gb', rfl, by omega, rfl, rfl, rfl, rfl, rfl, rfl, rfl, rfl, rfl, rfl, by rw [take_gi (by omega)]; exact hF, by rw [take_gi (by omega)]; exact hG, hap.symm, hbB1⟩
  obtain rfl : i = nf X := by omega
  rw [show F.take (nf X) = F from List.take_of_length_le (by omega)] at hF
  rw [show G.take (nf X) = G from List.take_of_length_le (by omega)] at hG
  clear shF shG
  have sF := hF.sv
  have sG := hG.sv
  rw [lF] at sF
  rw [lG] at sG
  have kF : ¬ (gi F 0 ≠ fl) := fun h => h gF
  have kG : ¬ (gi G 0 ≠ gl) := fun h => h gG
  refine go ?_
  refine s_call3 (wn rfl) rfl rfl rfl rfl (implIsCovering_any _ _ _ _ _ _ _ hA.rl hv hF.il) ?_
  rintro _ w28 ⟨rfl, hb28⟩
  have sw28 := hb28.size
  replace hcl := hcl.below hb28
  replace hv := hv.below hb28
  replace hv2 := hv2.below hb28
  replace hc3 := cell_below hc3 hb28
  replace hc5 := cell_below hc5 hb28
  replace hA := hA.below hb28
  replace hc7 := cell_below hc7 hb28
  replace hP := hP.below hb28
  replace hS := hS.below hb28
  replace hc13 := cell_below hc13 hb28
  replace hN := hN.below hb28
  replace hc15 := cell_below hc15 hb28
  replace hF := hF.below hb28
  replace hG := hG.below hb28
  replace hbB1 := hbB1.trans (hb28.mono hbB1.size)
  rw [eC, cC]
  refine go ?_
  refine s_call3 (wn rfl) rfl rfl rfl rfl (implIsCovering_any _ _ _ _ _ _ _ hA.rl hv2 hG.il) ?_
  rintro _ w29 ⟨rfl, hb29⟩
  have sw29 := hb29.size
  replace hcl := hcl.below hb29
  replace hv := hv.below hb29
  replace hv2 := hv2.below hb29
  replace hc3 := cell_below hc3 hb29
  replace hc5 := cell_below hc5 hb29
  replace hA := hA.below hb29
  replace hc7 := cell_below hc7 hb29
  replace hP := hP.below hb29
  replace hS := hS.below hb29
  replace hc13 := cell_below hc13 hb29
  replace hN := hN.below hb29
  replace hc15 := cell_below hc15 hb29
  replace hF := hF.below hb29
  replace hG := hG.below hb29
  replace hbB1 := hbB1.trans (hb29.mono hbB1.size)
  rw [eD, cD]
  refine go ?_
  refine region_h mixed (fun w30 hc30 => ?_)
  have swr30 := hc30.size
  refine h_p 0 hc30 ?_
  refine h_p 2 hc30 ?_
  refine h_p 3 hc30 ?_
  refine h_p 4 hc30 ?_
  refine h_one 1 ?_
  refine s_call2 (wn rfl) rfl rfl rfl (roll_any _ _ 713 _ (hcl.below hc30) (by decide)) ?_
  rintro _ w31 ⟨q, rfl, hs, hb31⟩
  have hc31 := hc30.trans (hb31.mono hc30.size)
  refine w_nil ?_
  refine h_on ⟨hc31, ?_⟩
  refine h_one 5 ?_
  refine s_call3 (wn rfl) rfl rfl rfl rfl (word5_any q _ c bs _ _ ms.length 4 _ rfl rfl (by omega) (by omega) (by omega) hs) ?_
  rintro wv w32 ⟨wd, hw, hwl, hwr, hs2, hgq⟩
  have hlq := hs.low
  have hcq := hc31.trans (gr_below hgq hc31.size (by have := hc31.size; omega))
  refine w_nil ?_
  refine h_on ⟨hcq, ?_⟩
  refine h_p 6 hcq ?_
  refine h_nil ?_
  have sw32 := hcq.size
  replace hcl := hcl.below hcq
  replace hv := hv.below hcq
  replace hv2 := hv2.below hcq
  replace hc3 := cell_below hc3 hcq
  replace hc5 := cell_below hc5 hcq
  replace hA := hA.below hcq
  replace hc7 := cell_below hc7 hcq
  replace hP := hP.below hcq
  replace hS := hS.below hcq
  replace hc13 := cell_below hc13 hcq
  replace hN := hN.below hcq
  replace hc15 := cell_below hc15 hcq
  replace hF := hF.below hcq
  replace hG := hG.below hcq
  replace hbB1 := hbB1.trans (hcq.mono hbB1.size)
  have swd := hw.sv
  refine go ?_
  have sbs2 := hbB1.size
  have hcl_b2 := hcl
  have hv_b2 := hv
  have hv2_b2 := hv2
  have hc3_b2 := hc3
  have hc5_b2 := hc5
  have hA_b2 := hA
  have hc7_b2 := hc7
  have hP_b2 := hP
  have hS_b2 := hS
  have hc13_b2 := hc13
  have hN_b2 := hN
  have hc15_b2 := hc15
  have hF_b2 := hF
  have hG_b2 := hG
  have hw_b2 := hw
  have hbB2 := Below.refl w32.heap.size w32
  refine go ?_
  have szq33 := hbB2.size
  refine s_build0 (B := w32.heap.size) (wn rfl) rfl szq33 (fun ob w33 ho so hg33 _ => ?_)
  have hb33 := below_of_grownBy hg33
  have sw33 := hb33.size
  replace hcl := hcl.below hb33
  replace hv := hv.below hb33
  replace hv2 := hv2.below hb33
  replace hc3 := cell_below hc3 hb33
  replace hc5 := cell_below hc5 hb33
  replace hA := hA.below hb33
  replace hc7 := cell_below hc7 hb33
  replace hP := hP.below hb33
  replace hS := hS.below hb33
  replace hc13 := cell_below hc13 hb33
  replace hN := hN.below hb33
  replace hc15 := cell_below hc15 hb33
  replace hF := hF.below hb33
  replace hG := hG.below hb33
  replace hw := hw.below hb33
  replace hbB2 := hbB2.trans (hb33.mono hbB2.size)
  refine go ?_
  have szq34 := hbB2.size
  refine s_appendI (wn rfl) rfl rfl rfl ho hw.il (by first | omega | (simp; omega)) szq34 (fun ob1 w34 hoN so hgN _ => ?_)
  replace hbB2 := hbB2.trans (ho.below_of hgN szq34)
  have sw34 := hgN.size
  replace ho := hoN
  clear hoN
  replace hcl := hcl_b2.below hbB2
  replace hv := hv_b2.below hbB2
  replace hv2 := hv2_b2.below hbB2
  replace hc3 := cell_below hc3_b2 hbB2
  replace hc5 := cell_below hc5_b2 hbB2
  replace hA := hA_b2.below hbB2
  replace hc7 := cell_below hc7_b2 hbB2
  replace hP := hP_b2.below hbB2
  replace hS := hS_b2.below hbB2
  replace hc13 := cell_below hc13_b2 hbB2
  replace hN := hN_b2.below hbB2
  replace hc15 := cell_below hc15_b2 hbB2
  replace hF := hF_b2.below hbB2
  replace hG := hG_b2.below hbB2
  replace hw := hw_b2.below hbB2
  rw [List.nil_append] at ho
  refine go ?_
  have szq35 := hbB2.size
  refine s_appendI (wn rfl) rfl rfl rfl ho hw.il (by first | omega | (simp; omega)) szq35 (fun ob2 w35 hoN so hgN _ => ?_)
  replace hbB2 := hbB2.trans (ho.below_of hgN szq35)
  have sw35 := hgN.size
  replace ho := hoN
  clear hoN
  replace hcl := hcl_b2.below hbB2
  replace hv := hv_b2.below hbB2
  replace hv2 := hv2_b2.below hbB2
  replace hc3 := cell_below hc3_b2 hbB2
  replace hc5 := cell_below hc5_b2 hbB2
  replace hA := hA_b2.below hbB2
  replace hc7 := cell_below hc7_b2 hbB2
  replace hP := hP_b2.below hbB2
  replace hS := hS_b2.below hbB2
  replace hc13 := cell_below hc13_b2 hbB2
  replace hN := hN_b2.below hbB2
  replace hc15 := cell_below hc15_b2 hbB2
  replace hF := hF_b2.below hbB2
  replace hG := hG_b2.below hbB2
  replace hw := hw_b2.below hbB2
  refine go ?_
  have sbs3 := hbB2.size
  have hcl_b3 := hcl
  have hv_b3 := hv
  have hv2_b3 := hv2
  have hc3_b3 := hc3
  have hc5_b3 := hc5
  have hA_b3 := hA
  have hc7_b3 := hc7
  have hP_b3 := hP
  have hS_b3 := hS
  have hc13_b3 := hc13
  have hN_b3 := hN
  have hc15_b3 := hc15
  have hF_b3 := hF
  have hG_b3 := hG
  have hw_b3 := hw
  have ho_b3 := ho
  have hbB3 := Below.refl w35.heap.size w35
  refine go ?_
  have szq36 := hbB3.size
  refine s_build0 (B := w35.heap.size) (wn rfl) rfl szq36 (fun oc w36 hu so hg36 _ => ?_)
  have hb36 := below_of_grownBy hg36
  have sw36 := hb36.size
  replace hcl := hcl.below hb36
  replace hv := hv.below hb36
  replace hv2 := hv2.below hb36
  replace hc3 := cell_below hc3 hb36
  replace hc5 := cell_below hc5 hb36
  replace hA := hA.below hb36
  replace hc7 := cell_below hc7 hb36
  replace hP := hP.below hb36
  replace hS := hS.below hb36
  replace hc13 := cell_below hc13 hb36
  replace hN := hN.below hb36
  replace hc15 := cell_below hc15 hb36
  replace hF := hF.below hb36
  replace hG := hG.below hb36
  replace hw := hw.below hb36
  replace ho := ho.below hb36
  replace hbB3 := hbB3.trans (hb36.mono hbB3.size)
  refine go ?_
  have szq37 := hbB3.size
  refine s_appendI (wn rfl) rfl rfl rfl hu hw.il (by first | omega | (simp; omega)) szq37 (fun oc1 w37 hoN so hgN _ => ?_)
  replace hbB3 := hbB3.trans (hu.below_of hgN szq37)
  have sw37 := hgN.size
  replace hu := hoN
  clear hoN
  replace hcl := hcl_b3.below hbB3
  replace hv := hv_b3.below hbB3
  replace hv2 := hv2_b3.below hbB3
  replace hc3 := cell_below hc3_b3 hbB3
  replace hc5 := cell_below hc5_b3 hbB3
  replace hA := hA_b3.below hbB3
  replace hc7 := cell_below hc7_b3 hbB3
  replace hP := hP_b3.below hbB3
  replace hS := hS_b3.below hbB3
  replace hc13 := cell_below hc13_b3 hbB3
  replace hN := hN_b3.below hbB3
  replace hc15 := cell_below hc15_b3 hbB3
  replace hF := hF_b3.below hbB3
  replace hG := hG_b3.below hbB3
  replace hw := hw_b3.below hbB3
  replace ho := ho_b3.below hbB3
  rw [List.nil_append] at hu
  refine go ?_
  have szq38 := hbB3.size
  refine s_appendI (wn rfl) rfl rfl rfl hu hw.il (by first | omega | (simp; omega)) szq38 (fun oc2 w38 hoN so hgN _ => ?_)
  replace hbB3 := hbB3.trans (hu.below_of hgN szq38)
  have sw38 := hgN.size
  replace hu := hoN
  clear hoN
  replace hcl := hcl_b3.below hbB3
  replace hv := hv_b3.below hbB3
  replace hv2 := hv2_b3.below hbB3
  replace hc3 := cell_below hc3_b3 hbB3
  replace hc5 := cell_below hc5_b3 hbB3
  replace hA := hA_b3.below hbB3
  replace hc7 := cell_below hc7_b3 hbB3
  replace hP := hP_b3.below hbB3
  replace hS := hS_b3.below hbB3
  replace hc13 := cell_below hc13_b3 hbB3
  replace hN := hN_b3.below hbB3
  replace hc15 := cell_below hc15_b3 hbB3
  replace hF := hF_b3.below hbB3
  replace hG := hG_b3.below hbB3
  replace hw := hw_b3.below hbB3
  replace ho := ho_b3.below hbB3
  replace hbB2 := hbB2.trans (hbB3.mono hbB2.size)
  refine go ?_
  have szq39 := hbB2.size
  refine s_appendI (wn rfl) rfl rfl rfl ho hu.il (by first | omega | (simp; omega)) szq39 (fun ob3 w39 hoN so hgN _ => ?_)
  replace hbB2 := hbB2.trans (ho.below_of hgN szq39)
  have sw39 := hgN.size
  replace ho := hoN
  clear hoN
  replace hcl := hcl_b2.below hbB2
  replace hv := hv_b2.below hbB2
  replace hv2 := hv2_b2.below hbB2
  replace hc3 := cell_below hc3_b2 hbB2
  replace hc5 := cell_below hc5_b2 hbB2
  replace hA := hA_b2.below hbB2
  replace hc7 := cell_below hc7_b2 hbB2
  replace hP := hP_b2.below hbB2
  replace hS := hS_b2.below hbB2
  replace hc13 := cell_below hc13_b2 hbB2
  replace hN := hN_b2.below hbB2
  replace hc15 := cell_below hc15_b2 hbB2
  replace hF := hF_b2.below hbB2
  replace hG := hG_b2.below hbB2
  replace hw := hw_b2.below hbB2
  obtain ⟨e1, e2, e3, e4⟩ := hwd (wd ++ wd ++ (wd ++ wd)) (fun x hx => hwr x (by simpa using hx)) (by simp; omega)
  generalize wd ++ wd ++ (wd ++ wd) = W at *
  have sob := ho.sv
  refine go ?_
  refine s_call2 (wn rfl) rfl rfl rfl (implDoesNothing_any _ _ _ _ _ hA.rl ho.il) ?_
  rintro _ w40 ⟨rfl, hb40⟩
  have sw40 := hb40.size
  replace hcl := hcl.below hb40
  replace hv := hv.below hb40
  replace hv2 := hv2.below hb40
  replace hc3 := cell_below hc3 hb40
  replace hc5 := cell_below hc5 hb40
  replace hA := hA.below hb40
  replace hc7 := cell_below hc7 hb40
  replace hP := hP.below hb40
  replace hS := hS.below hb40
  replace hc13 := cell_below hc13 hb40
  replace hN := hN.below hb40
  replace hc15 := cell_below hc15 hb40
  replace hF := hF.below hb40
  replace hG := hG.below hb40
  replace hw := hw.below hb40
  replace ho := ho.below hb40
  replace hbB2 := hbB2.trans (hb40.mono hbB2.size)
  rw [e1, e2]
  refine go ?_
  refine s_call2 (wn rfl) rfl rfl rfl (implDoesNothing_any _ _ _ _ _ hv ho.il) ?_
  rintro _ w41 ⟨rfl, hb41⟩
  have sw41 := hb41.size
  replace hcl := hcl.below hb41
  replace hv := hv.below hb41
  replace hv2 := hv2.below hb41
  replace hc3 := cell_below hc3 hb41
  replace hc5 := cell_below hc5 hb41
  replace hA := hA.below hb41
  replace hc7 := cell_below hc7 hb41
  replace hP := hP.below hb41
  replace hS := hS.below hb41
  replace hc13 := cell_below hc13 hb41
  replace hN := hN.below hb41
  replace hc15 := cell_below hc15 hb41
  replace hF := hF.below hb41
  replace hG := hG.below hb41
  replace hw := hw.below hb41
  replace ho := ho.below hb41
  replace hbB2 := hbB2.trans (hb41.mono hbB2.size)
  rw [e3]
  refine go ?_
  refine s_call2 (wn rfl) rfl rfl rfl (implDoesNothing_any _ _ _ _ _ hv2 ho.il) ?_
  rintro _ w42 ⟨rfl, hb42⟩
  have sw42 := hb42.size
  replace hcl := hcl.below hb42
  replace hv := hv.below hb42
  replace hv2 := hv2.below hb42
  replace hc3 := cell_below hc3 hb42
  replace hc5 := cell_below hc5 hb42
  replace hA := hA.below hb42
  replace hc7 := cell_below hc7 hb42
  replace hP := hP.below hb42
  replace hS := hS.below hb42
  replace hc13 := cell_below hc13 hb42
  replace hN := hN.below hb42
  replace hc15 := cell_below hc15 hb42
  replace hF := hF.below hb42
  replace hG := hG.below hb42
  replace hw := hw.below hb42
  replace ho := ho.below hb42
  replace hbB2 := hbB2.trans (hb42.mono hbB2.size)
  rw [e4]
  cases hq : doesNo ms W
  · rw [if_neg (by decide)]
    refine go ?_
    exact end_one Try.results7 rfl ⟨rfl, ((hb.trans (hbB1.mono hb.size)).trans (hbB2.mono (hb.trans (hbB1.mono hb.size)).size))⟩
  · rw [if_pos rfl]
    have kz : decide (doesNo ks W = doesNo ks W) = true := decide_eq_true rfl
    refine go ?_
    exact end_one Try.results7 rfl ⟨by rw [kz], ((hb.trans (hbB1.mono hb.size)).trans (hbB2.mono (hb.trans (hbB1.mono hb.size)).size))⟩


set_option maxRecDepth 100000 in
theorem liftedMixes (os : Os) (started : os.Started) (H : Type) (enc : TypeId × Value → H) :
    ReturnsInHanded {} Try.checked os 7 .any (Rows.fnMixesSpec.pre6 enc Try.prog Try.f7 Rows.fnMixesRow.domain false) (Rows.fnMixesSpec.post enc Try.prog Try.f7 false true false false) := by
  refine returnsInHanded_of_change (C := Try.checked) own started (by kernel_rfl) Try.func7
    (ChangeSpec.witness6 (enc := enc) (C := Try.checked) false ⟨#[], #[.slice none 0 0], []⟩ 8 (by kernel_rfl) (by kernel_rfl) (by kernel_rfl) (by kernel_rfl)) ?_
  intro W base args ds gs before hval0 hW hcnd _
  have hval : ∀ (j : Nat) t v, Try.f7.params[j]? = some t → args[j]? = some v → Value.okWide Try.prog W .any base t v := hval0
  have hW' := hW
  obtain ⟨p, q, hA0, hV, rfl, hfz, hnd⟩ := hW
  have hA : DataW.TrodAll enc Try.prog W 0 (fun _ => true) true Try.f7.params.toList args.toList ds p := hA0
  rw [Try.params7] at hA hval
  obtain ⟨v0, vs0, d0, ds0, p0, q0, hargs, rfl, rfl, h0, r0⟩ := trodAll_cons hA
  obtain ⟨rfl, rfl, rfl⟩ := trodAll_nil r0
  obtain rfl : args = #[v0] := by cases args; simp_all
  obtain ⟨rfl, rfl⟩ := trodVars_none hV
  have lt0 : ∀ x ∈ p0, x.block < W.heap.size := by obtain ⟨m, hm⟩ := h0; exact DataW.trod_lt m _ _ _ hm
  obtain ⟨xs0, hu0⟩ := open_arg_B (hval 0 22 v0 rfl rfl) h0
  clear hA0 hval0
  refine Calls.mono (lawMixes_any v0 xs0 W hu0) fun e W' ⟨v, he, hv, bel⟩ => ?_
  subst he
  subst hv
  exact ⟨_, rfl, _, _, _, [], _, [], hW', trodAll_mk1 (shut_bool Try.underlying4 _), (trodAll_cons_mk (Below.trod laidOut (by kernel_rfl) (of_decide_eq_true (by kernel_rfl)) h0 bel lt0) trodAll_mk0), rfl, bel.frame _, fun h => by cases h⟩

theorem provedMixes : Rows.FnMixesSaid :=
  OpenClaim.holds_of_wide 7 Try.f7 rfl rfl rfl rfl rfl rfl rfl ⟨rfl, rfl, rfl, rfl, rfl⟩ rfl rfl rfl rfl rfl (by kernel_rfl) Try.func7 (by kernel_rfl)
    (of_decide_eq_true (by kernel_rfl)) (by unfold Func.isWrapper; first | (rw [if_pos (by decide +kernel)]; kernel_rfl) | (rw [if_neg (by decide +kernel)]; exact ⟨rfl, rfl⟩))
    (fun os started H enc _ => liftedMixes os started H enc)

end Go.Proofs.Ytmdimdbfgibflaa
