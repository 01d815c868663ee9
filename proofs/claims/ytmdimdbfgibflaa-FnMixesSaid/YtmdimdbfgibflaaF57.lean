/- Contracts: mixes, the reference's side. -/
import Derived.Test.YtmdimdbfgibflaaF40
import Derived.Test.YtmdimdbfgibflaaF47
import Derived.Test.YtmdimdbfgibflaaF46
import Derived.Test.YtmdimdbfgibflaaPD
namespace Go.Mem
open Go.RowKit
noncomputable def mixQ (ms ks : List (List Int)) (f g : Int) : List Int := if (mixO ms ks f g).length ≤ 400 then mixO ms ks f g else []
theorem mixQ_yes {ms ks : List (List Int)} {f g : Int} (h : (mixO ms ks f g).length ≤ 400) : mixQ ms ks f g = mixO ms ks f g := if_pos h
noncomputable def mixR (ms ks : List (List Int)) (f g : Int) : List Int := if mixC ms ks f g = 0 then mixO ms ks f g else []
theorem mixR_no {ms ks : List (List Int)} {f g : Int} (h : mixC ms ks f g ≠ 0) : mixR ms ks f g = [] := if_neg h
theorem mixR_yes {ms ks : List (List Int)} {f g : Int} (h : mixC ms ks f g = 0) : mixR ms ks f g = mixO ms ks f g := if_pos h
theorem mixQ_no {ms ks : List (List Int)} {f g : Int} (h : ¬ (mixO ms ks f g).length ≤ 400) : mixQ ms ks f g = [] := if_neg h
end Go.Mem
namespace Go.Proofs.Ytmdimdbfgibflaa
open Go.Mem Go.RowKit
set_option linter.unusedVariables false
set_option linter.unusedSimpArgs false

set_option maxHeartbeats 8000000 in
set_option maxRecDepth 100000 in
theorem l08Mix_any (v : Value) (v2 : Value) (ms : List (List Int)) (f : Int) (ks : List (List Int)) (g : Int) (w : World) (hv : RL w v ms) (hv2 : RL w v2 ks) (hm : IsMan ms) (hk : IsMan ks) (hl : ms.length = ks.length) (hf : 0 ≤ f ∧ f < nf ms) (hg : 0 ≤ g ∧ g < nf ks) :
    Ret Try.prog 155 #[.agg #[v], .int .i64 f, .agg #[v2], .int .i64 g] w fun r w' => ∃ ob, r = .tuple #[ob, .bool (decide ((mixO ms ks f g).length ≤ 400))] ∧ OI w' w.heap.size 2 ob (mixQ ms ks f g) ∧ Below w.heap.size w w' := by
  have shv := hv.sv
  have shv2 := hv2.sv
  have hb := Below.refl w.heap.size w
  refine enter4 92 Try.func155 rfl Try.ntmps155 rfl (fun fr => ?_)
  have r5 := hm.m0.r5
  have r1 := hm.m0.r1
  have f4 := hm.m0.f400
  have k1 := hk.m0.r1
  have g4 := hk.m0.f400
  have g2 := hk.m0.f2
  have f2 := hm.m0.f2
  have hN := Nat.mul_le_mul hm.m0.f400 hk.m0.f400
  have hcast : ((nf ms * nf ks : Nat) : Int) = (nf ms : Int) * nf ks := Int.natCast_mul _ _
  have hmn : 0 ≤ (nf ms : Int) * nf ks ∧ (nf ms : Int) * nf ks ≤ 160000 := by omega
  have hc0 := code_lt hf hg
  have hfn := code_lt (n := nf ks) hf (b := 0) (by omega)
  have hsys := prodM_syst hm hk hl
  refine go ?_
  refine s_box (wn rfl) rfl rfl (agg_cells shv) (fun w1 hbx _ hp hg => ?_)
  have hb1 := below_of_grownBy hg
  have sw1 := hb1.size
  replace hv := hv.below hb1
  replace hv2 := hv2.below hb1
  replace hb := hb.trans (hb1.mono hb.size)
  clear hg hp hb1
  generalize (⟨w.heap.size, 0, none⟩ : Addr) = p at *
  refine go ?_
  refine s_box (wn rfl) rfl rfl (agg_cells shv2) (fun w2 hbx2 _ hp hg => ?_)
  have hb2 := below_of_grownBy hg
  have sw2 := hb2.size
  replace hv := hv.below hb2
  replace hv2 := hv2.below hb2
  replace hbx := cell_below hbx hb2
  replace hb := hb.trans (hb2.mono hb.size)
  clear hg hp hb2
  generalize (⟨w1.heap.size, 0, none⟩ : Addr) = p2 at *
  refine go ?_
  refine s_call1 (wn rfl) rfl rfl (l02Flags_any _ _ _ hv2 k1) ?_
  rintro _ w3 ⟨rfl, hb3⟩
  have sw3 := hb3.size
  replace hv := hv.below hb3
  replace hv2 := hv2.below hb3
  replace hbx := cell_below hbx hb3
  replace hbx2 := cell_below hbx2 hb3
  replace hb := hb.trans (hb3.mono hb.size)
  have sb0 := hb.size
  have sbs1 := hb.size
  have hv_b1 := hv
  have hv2_b1 := hv2
  have hbx_b1 := hbx
  have hbx2_b1 := hbx2
  have hbB1 := Below.refl w3.heap.size w3
  have e160 : ((nf ms : Int) * nf ks).toNat = nf ms * nf ks := by omega
  refine go ?_
  refine meet (fun r w' => ∃ ob sb, r 4 = .pointer (some p) ∧ r 6 = .pointer (some p2) ∧ r 10 = .int .i64 (nf ks) ∧ r 11 = ob ∧ r 12 = sb ∧ OI w' w3.heap.size 2 ob [f * nf ks + g] ∧ OB w' w3.heap.size 4 sb (List.replicate (nf ms * nf ks) false) ∧ Below w3.heap.size w3 w') ?_ ?_
  · refine region_h mixed (fun wr cr => ?_)
    have zr := cr.size
    have hvr := hv.below cr
    have hbr := cell_below hbx cr
    refine h_p 0 cr ?_
    refine h_p 1 cr ?_
    refine h_p 2 cr ?_ (hrun := fun _ _ => y_mul rfl rfl (by omega))
    refine h_p 3 cr ?_
    refine h_p 4 cr ?_
    refine h_p 6 cr ?_
    refine h_p 8 cr ?_
    refine h_two 5 7 ?_ ?_
    · refine s_build1 (B := w3.heap.size) (wn rfl) rfl rfl (by omega) (fun ob wb ho so hgb _ => ?_)
      have hbb := below_of_grownBy hgb
      replace cr := cr.trans (hbb.mono cr.size)
      have zb := hbb.size
      refine w_nil ?_
      refine h_on ⟨cr, ?_⟩
      refine h_one 7 ?_
      refine s_call1 (wn rfl) rfl rfl (l02Flags_any _ _ _ (hvr.below hbb) r1) ?_
      rintro _ wc ⟨rfl, hbc⟩
      replace cr := cr.trans (hbc.mono cr.size)
      have zc := hbc.size
      replace ho := ho.below hbc
      refine w_nil ?_
      refine h_on ⟨cr, ?_⟩
      refine h_p 9 cr ?_ (hrun := fun _ _ => y_mul rfl rfl (by omega))
      refine h_p 11 cr ?_
      refine h_one 10 ?_
      refine s_makeB (B := w3.heap.size) (wn rfl) rfl rfl rfl (by omega) (by omega) (by omega) (fun sb wm hsb ssb hgm _ => ?_)
      have hbm := below_of_grownBy hgm
      replace cr := cr.trans (hbm.mono cr.size)
      have zm := hbm.size
      rw [e160] at hsb
      replace ho := ho.below hbm
      refine w_nil ?_
      refine h_on ⟨cr, ?_⟩
      refine h_p 12 cr ?_
      refine h_nil ?_
      exact ⟨ob, sb, rfl, rfl, rfl, rfl, rfl, ho, hsb, cr⟩
    · refine s_call1 (wn rfl) rfl rfl (l02Flags_any _ _ _ (hvr) r1) ?_
      rintro _ wc ⟨rfl, hbc⟩
      replace cr := cr.trans (hbc.mono cr.size)
      have zc := hbc.size
      refine w_nil ?_
      refine h_on ⟨cr, ?_⟩
      refine h_p 9 cr ?_ (hrun := fun _ _ => y_mul rfl rfl (by omega))
      refine h_two 5 10 ?_ ?_
      · refine s_build1 (B := w3.heap.size) (wn rfl) rfl rfl (by omega) (fun ob wb ho so hgb _ => ?_)
        have hbb := below_of_grownBy hgb
        replace cr := cr.trans (hbb.mono cr.size)
        have zb := hbb.size
        refine w_nil ?_
        refine h_on ⟨cr, ?_⟩
        refine h_p 11 cr ?_
        refine h_one 10 ?_
        refine s_makeB (B := w3.heap.size) (wn rfl) rfl rfl rfl (by omega) (by omega) (by omega) (fun sb wm hsb ssb hgm _ => ?_)
        have hbm := below_of_grownBy hgm
        replace cr := cr.trans (hbm.mono cr.size)
        have zm := hbm.size
        rw [e160] at hsb
        replace ho := ho.below hbm
        refine w_nil ?_
        refine h_on ⟨cr, ?_⟩
        refine h_p 12 cr ?_
        refine h_nil ?_
        exact ⟨ob, sb, rfl, rfl, rfl, rfl, rfl, ho, hsb, cr⟩
      · refine s_makeB (B := w3.heap.size) (wn rfl) rfl rfl rfl (by omega) (by omega) (by omega) (fun sb wm hsb ssb hgm _ => ?_)
        have hbm := below_of_grownBy hgm
        replace cr := cr.trans (hbm.mono cr.size)
        have zm := hbm.size
        rw [e160] at hsb
        refine w_nil ?_
        refine h_on ⟨cr, ?_⟩
        refine h_one 5 ?_
        refine s_build1 (B := w3.heap.size) (wn rfl) rfl rfl (by omega) (fun ob wb ho so hgb _ => ?_)
        have hbb := below_of_grownBy hgb
        replace cr := cr.trans (hbb.mono cr.size)
        have zb := hbb.size
        replace hsb := hsb.below hbb
        refine w_nil ?_
        refine h_on ⟨cr, ?_⟩
        refine h_p 11 cr ?_
        refine h_p 12 cr ?_
        refine h_nil ?_
        exact ⟨ob, sb, rfl, rfl, rfl, rfl, rfl, ho, hsb, cr⟩
  rintro r w4 ⟨ob, sb, f4', f6, f10, f11, f12, ho, hs, hbJ⟩
  have sw4 := hbJ.size
  replace hv := hv.below hbJ
  replace hv2 := hv2.below hbJ
  replace hbx := cell_below hbx hbJ
  replace hbx2 := cell_below hbx2 hbJ
  replace hbB1 := hbB1.trans (hbJ.mono hbB1.size)
  have so : SV ob 1 := ho.sv
  have ss := hs.sv
  rw [List.length_replicate] at ss
  generalize hq0 : [f * (nf ks : Int) + g] = o0 at *
  have hl0 : o0.length = 1 := by rw [← hq0]; rfl
  have hgi0 : gi o0 0 = f * nf ks + g := by rw [← hq0]; rfl
  have hmb0 : mixB ms ks f g 0 = o0 := hq0
  refine know (t := 4) f4' ?_; refine know (t := 6) f6 ?_; refine know (t := 10) f10 ?_; refine know (t := 11) f11 ?_; refine know (t := 12) f12 ?_
  refine go ?_
  have szq5 := hbB1.size
  refine s_storeB (wn rfl) rfl rfl hs (by omega) (by first | omega | (simp; omega)) (fun w5 hsN hgN => ?_)
  replace hbB1 := hbB1.trans (hs.below_of hgN szq5)
  have sw5 := hgN.size
  replace ho := ho.kept hgN (ho.apart_OB hs (by decide))
  replace hs := hsN
  clear hsN
  replace hv := hv_b1.below hbB1
  replace hv2 := hv2_b1.below hbB1
  replace hbx := cell_below hbx_b1 hbB1
  replace hbx2 := cell_below hbx2_b1 hbB1
  have hst := Orb.start (n := nf ms * nf ks) (p := gi o0 0) (m := nf ms * nf ks) (by rw [hgi0]; exact hc0) (Nat.le_refl _)
  have hge0 : [gi o0 0] = mixB ms ks f g 0 := by rw [hgi0]; rfl
  rw [hge0] at hst
  rw [← hmb0] at ho
  refine go ?_
  refine w_loop (fun kk fr w' => ∃ (i : Nat) (ob : Value) (seen : List Bool), kk = 401 - i ∧ i ≤ 401 ∧ fr 4 = .pointer (some p) ∧ fr 6 = .pointer (some p2) ∧ fr 10 = .int .i64 (nf ks) ∧ fr 11 = ob ∧ fr 12 = sb ∧ fr 13 = .int .i64 i ∧ (i ≤ (mixB ms ks f g i).length) ∧ ((mixB ms ks f g i).length ≤ 400) ∧ (OI w' w3.heap.size 2 ob (mixB ms ks f g i)) ∧ (OB w' w3.heap.size 4 sb seen) ∧ (Orb (nf ms * nf ks) seen (mixB ms ks f g i)) ∧ Below w3.heap.size w3 w') (401)
    ⟨0, ob, _, rfl, Nat.zero_le _, rfl, rfl, rfl, rfl, rfl, rfl, by simp, by simp [mixB, bfs], ho, hs, hst, hbB1⟩ ?_
  rintro kk fr w6 ⟨i, ob, seen, rfl, hi, f4, f6, f10, f11, f12, f13, hile, hlen, ho, hs, horb, hbB1⟩
  have sw6 := hbB1.size
  have hv := hv_b1.below hbB1
  have hv2 := hv2_b1.below hbB1
  have hbx := cell_below hbx_b1 hbB1
  have hbx2 := cell_below hbx2_b1 hbB1
  have sho := ho.sv
  have shs := hs.sv
  refine know (t := 4) f4 ?_; refine know (t := 6) f6 ?_; refine know (t := 10) f10 ?_; refine know (t := 11) f11 ?_; refine know (t := 12) f12 ?_; refine know (t := 13) f13 ?_
  refine go ?_
  have hle := horb.le
  refine cond_dec rfl (fun hlt => ?_) (fun hge => ?_)
  · have hx : 0 ≤ gi (mixB ms ks f g i) i ∧ gi (mixB ms ks f g i) i < ((nf ms * nf ks : Nat) : Int) := horb.rng _ (gi_mem (by omega) hlt)
    refine go ?_
    refine w_loop (fun kk fr w' => ∃ (j : Nat) (ob : Value) (seen : List Bool) (o : List Int), kk = ms.length - j ∧ j ≤ ms.length ∧ fr 4 = .pointer (some p) ∧ fr 6 = .pointer (some p2) ∧ fr 10 = .int .i64 (nf ks) ∧ fr 11 = ob ∧ fr 12 = sb ∧ fr 13 = .int .i64 i ∧ fr 14 = .int .i64 j ∧ (o = visits (mixB ms ks f g i) ((images (prodM ms ks) (gi (mixB ms ks f g i) i)).take j)) ∧ (OI w' w3.heap.size 2 ob (o)) ∧ (OB w' w3.heap.size 4 sb seen) ∧ (Orb (nf ms * nf ks) seen (o)) ∧ Below w3.heap.size w3 w') (ms.length)
      ⟨0, ob, seen, _, rfl, Nat.zero_le _, rfl, rfl, rfl, rfl, rfl, rfl, rfl, by simp [visits], ho, hs, horb, hbB1⟩ ?_
    rintro kk fr w7 ⟨j, ob, seen, o, rfl, hj, f4, f6, f10, f11, f12, f13, f14, hoe, ho, hs, horb, hbB1⟩
    have sw7 := hbB1.size
    have hv := hv_b1.below hbB1
    have hv2 := hv2_b1.below hbB1
    have hbx := cell_below hbx_b1 hbB1
    have hbx2 := cell_below hbx2_b1 hbB1
    have sho := ho.sv
    have shs := hs.sv
    refine know (t := 4) f4 ?_; refine know (t := 6) f6 ?_; refine know (t := 10) f10 ?_; refine know (t := 11) f11 ?_; refine know (t := 12) f12 ?_; refine know (t := 13) f13 ?_; refine know (t := 14) f14 ?_
    refine go ?_
    have hle := horb.le
    have hol : (mixB ms ks f g i).length ≤ o.length := by rw [hoe]; exact length_visits _ _
    have hgo : gi o i = gi (mixB ms ks f g i) i := by rw [hoe]; exact gi_visits (by omega) hlt
    refine cond_dec rfl (fun hlt2 => ?_) (fun hge2 => ?_)
    · obtain ⟨d1, d2, d3⟩ := code_of hx
      obtain ⟨m1, m2⟩ := prodM_at hm hk hl (j := j) (by omega) hx
      have hc := code_lt m1 m2
      have e : gi (gr (prodM ms ks) j) (gi (mixB ms ks f g i) i) = gi (gr ms j) (gi (mixB ms ks f g i) i / nf ks) * nf ks + gi (gr ks j) (gi (mixB ms ks f g i) i % nf ks) := gi_prodM (by omega) hx
      have hmul : 0 ≤ gi (gr ms j) (gi (mixB ms ks f g i) i / nf ks) * (nf ks : Int) ∧ gi (gr ms j) (gi (mixB ms ks f g i) i / nf ks) * (nf ks : Int) ≤ 160000 := by
        have := code_lt (n := nf ks) m1 (b := 0) (by omega)
        omega
      obtain ⟨u, hu, hcu⟩ := hv.row (j := (j : Int)) (by omega) (by omega)
      obtain ⟨u2, hu2, hcu2⟩ := hv2.row (j := (j : Int)) (by omega) (by omega)
      have su := hu.sv
      have su2 := hu2.sv
      have hrl1 := (hm.syst.row (j := (j : Int)) (by omega) (by omega)).1
      have hrl2 := (hk.syst.row (j := (j : Int)) (by omega) (by omega)).1
      rw [hrl1] at su
      rw [hrl2] at su2
      have hsl := horb.len
      have hx2 := hx
      rw [← hgo] at hx2 d1 d2 d3 m1 m2 hc e hmul
      refine go ?_
      refine region_q mixed (by kernel_rfl) ?_
      refine qo ?_
      refine q_p (wn rfl) rfl (fun _ _ => y_mul rfl rfl (by omega)) ?_
      refine qo ?_
      refine q_nil ?_
      intro w8 hb8
      have sw8 := hb8.size
      replace hv := hv.below hb8
      replace hv2 := hv2.below hb8
      replace hbx := cell_below hbx hb8
      replace hbx2 := cell_below hbx2 hb8
      replace ho := ho.below hb8
      replace hs := hs.below hb8
      replace hbB1 := hbB1.trans (hb8.mono hbB1.size)
      have hstep : visits (mixB ms ks f g i) ((images (prodM ms ks) (gi (mixB ms ks f g i) i)).take (j + 1)) = visit o (gi (gr ms j) (gi o i / nf ks) * nf ks + gi (gr ks j) (gi o i % nf ks)) := by
        rw [visits_take_succ (by rw [length_images, length_prodM]; omega), gi_images (by rw [length_prodM]; omega), ← hoe, ← hgo, e]
      generalize gi (gr ms j) (gi o i / nf ks) * (nf ks : Int) + gi (gr ks j) (gi o i % nf ks) = c at *
      refine go ?_
      refine cond_split rfl (fun hn => ?_) (fun hn => ?_)
      · have hn : gb seen c = false := by simpa using hn
        obtain ⟨hv1, horb'⟩ := horb.miss hc hn
        refine go ?_
        have szq9 := hbB1.size
        refine s_storeB (wn rfl) rfl rfl hs (by omega) (by first | omega | (simp; omega)) (fun w9 hsN hgN => ?_)
        replace hbB1 := hbB1.trans (hs.below_of hgN szq9)
        have sw9 := hgN.size
        replace ho := ho.kept hgN (ho.apart_OB hs (by decide))
        replace hs := hsN
        clear hsN
        replace hv := hv_b1.below hbB1
        replace hv2 := hv2_b1.below hbB1
        replace hbx := cell_below hbx_b1 hbB1
        replace hbx2 := cell_below hbx2_b1 hbB1
        refine go ?_
        have hap : Ap sb ob := hs.apart_OI ho (by decide)
        have szq10 := hbB1.size
        refine s_build1 (B := w3.heap.size) (wn rfl) rfl rfl szq10 (fun tb w10 ht st hg10 _ => ?_)
        have hb10 := below_of_grownBy hg10
        have sw10 := hb10.size
        replace hv := hv.below hb10
        replace hv2 := hv2.below hb10
        replace hbx := cell_below hbx hb10
        replace hbx2 := cell_below hbx2 hb10
        replace hs := hs.below hb10
        replace ho := ho.below hb10
        replace hbB1 := hbB1.trans (hb10.mono hbB1.size)
        have szq11 := hbB1.size
        refine s_appendI (wn rfl) rfl rfl rfl ho ht.il (by simp; omega) szq11 (fun ob' w11 hoN so hgN hgrow => ?_)
        replace hbB1 := hbB1.trans (ho.below_of hgN szq11)
        have hltk := fun g hg => (hs.lt g hg).2
        replace hs := hs.kept hgN hap
        replace hap := hap.grow hltk hgrow
        clear hltk
        have sw11 := hgN.size
        replace ho := hoN
        clear hoN hgrow
        replace hv := hv_b1.below hbB1
        replace hv2 := hv2_b1.below hbB1
        replace hbx := cell_below hbx_b1 hbB1
        replace hbx2 := cell_below hbx2_b1 hbB1
        refine go ?_
        refine ⟨ms.length - (j + 1), by omega, j + 1, ob', _, _, rfl, by omega, rfl, rfl, rfl, rfl, rfl, rfl, rfl, by rw [hstep, hv1], ho, hs, horb', hbB1⟩
      have hn : gb seen c = true := by simpa using hn
      refine go ?_
      refine ⟨ms.length - (j + 1), by omega, j + 1, ob, _, o, rfl, by omega, rfl, rfl, rfl, rfl, rfl, rfl, rfl, by rw [hstep, horb.hit hc hn], ho, hs, horb, hbB1⟩
    obtain rfl : j = ms.length := by omega
    have hbs : o = mixB ms ks f g (i + 1) := by
      rw [hoe, visits_take_all (by rw [length_images, length_prodM]; omega), mixB_succ (by omega)]
    subst hbs
    refine go ?_
    refine cond_dec rfl (fun hlt => ?_) (fun hge => ?_)
    · have hbig := mixB_big (ms := ms) (ks := ks) (f := f) (g := g) (i := i) (by omega) (by omega)
      rw [decide_eq_false hbig, mixQ_no hbig]
      refine go ?_
      exact end_two Try.results155 rfl rfl ⟨_, rfl, OI.nil _ _ _, (hb.trans (hbB1.mono hb.size))⟩
    refine go ?_
    refine ⟨401 - (i + 1), by omega, i + 1, ob, _, rfl, by omega, rfl, rfl, rfl, rfl, rfl, rfl, by omega, by omega, ho, hs, horb, hbB1⟩
  have he := mixB_end (ms := ms) (ks := ks) (f := f) (g := g) (i := i) (by omega) (by omega)
  have hok : (mixO ms ks f g).length ≤ 400 := by rw [he]; exact hlen
  rw [decide_eq_true hok, mixQ_yes hok, he]
  refine go ?_
  exact end_two Try.results155 rfl rfl ⟨_, rfl, ho.mono (by omega), (hb.trans (hbB1.mono hb.size))⟩

set_option maxHeartbeats 8000000 in
set_option maxRecDepth 100000 in
theorem l08Code_any (v : Value) (v2 : Value) (ms : List (List Int)) (f : Int) (ks : List (List Int)) (g : Int) (w : World) (hv : RL w v ms) (hv2 : RL w v2 ks) :
    Ret Try.prog 106 #[.agg #[v], .int .i64 f, .agg #[v2], .int .i64 g] w fun r w' => ∃ ob, r = .tuple #[ob, .int .i64 (mixC ms ks f g)] ∧ OI w' w.heap.size 2 ob (mixR ms ks f g) ∧ Below w.heap.size w w' := by
  have shv := hv.sv
  have shv2 := hv2.sv
  have hb := Below.refl w.heap.size w
  refine enter4 48 Try.func106 rfl Try.ntmps106 rfl (fun fr => ?_)
  refine go ?_
  refine s_box (wn rfl) rfl rfl (agg_cells shv) (fun w1 hbx _ hp hg => ?_)
  have hb1 := below_of_grownBy hg
  have sw1 := hb1.size
  replace hv := hv.below hb1
  replace hv2 := hv2.below hb1
  replace hb := hb.trans (hb1.mono hb.size)
  clear hg hp hb1
  generalize (⟨w.heap.size, 0, none⟩ : Addr) = p at *
  refine go ?_
  refine s_box (wn rfl) rfl rfl (agg_cells shv2) (fun w2 hbx2 _ hp hg => ?_)
  have hb2 := below_of_grownBy hg
  have sw2 := hb2.size
  replace hv := hv.below hb2
  replace hv2 := hv2.below hb2
  replace hbx := cell_below hbx hb2
  replace hb := hb.trans (hb2.mono hb.size)
  clear hg hp hb2
  generalize (⟨w1.heap.size, 0, none⟩ : Addr) = p2 at *
  refine go ?_
  refine s_call1 (wn rfl) rfl rfl (l02Is_any _ _ _ hv) ?_
  rintro _ w3 ⟨rfl, hb3⟩
  have sw3 := hb3.size
  replace hv := hv.below hb3
  replace hv2 := hv2.below hb3
  replace hbx := cell_below hbx hb3
  replace hbx2 := cell_below hbx2 hb3
  replace hb := hb.trans (hb3.mono hb.size)
  refine splitb (decide (IsMan ms)) (fun hm => ?_) (fun hm => ?_)
  rotate_left
  · have hm := of_decide_eq_false hm
    have e := mix_1 (ms := ms) (ks := ks) (f := f) (g := g) (fun h => hm h.1)
    refine go ?_
    exact end_two Try.results106 rfl rfl ⟨.slice none 0 0, by rw [e.2.2], by rw [mixR_no (by rw [e.2.2]; decide)]; exact OI.nil _ _ _, hb⟩
  have hm' := of_decide_eq_true hm
  refine go ?_
  refine s_call1 (wy rfl rfl rfl rfl rfl known) rfl rfl (l02Is_any _ _ _ hv2) ?_
  rintro _ w4 ⟨rfl, hb4⟩
  have sw4 := hb4.size
  replace hv := hv.below hb4
  replace hv2 := hv2.below hb4
  replace hbx := cell_below hbx hb4
  replace hbx2 := cell_below hbx2 hb4
  replace hb := hb.trans (hb4.mono hb.size)
  refine splitb (decide (IsMan ks)) (fun hk => ?_) (fun hk => ?_)
  rotate_left
  · have hk := of_decide_eq_false hk
    have e := mix_1 (ms := ms) (ks := ks) (f := f) (g := g) (fun h => hk h.2)
    refine go ?_
    exact end_two Try.results106 rfl rfl ⟨.slice none 0 0, by rw [e.2.2], by rw [mixR_no (by rw [e.2.2]; decide)]; exact OI.nil _ _ _, hb⟩
  have hk' := of_decide_eq_true hk
  have r1 := hm'.m0.r1
  have k1 := hk'.m0.r1
  have f4 := hm'.m0.f400
  have g4 := hk'.m0.f400
  refine go ?_
  refine s_call2 (wn rfl) rfl rfl rfl (l02Flag_any _ _ f _ hv r1 f4) ?_
  rintro _ w5 ⟨rfl, hb5⟩
  have sw5 := hb5.size
  replace hv := hv.below hb5
  replace hv2 := hv2.below hb5
  replace hbx := cell_below hbx hb5
  replace hbx2 := cell_below hbx2 hb5
  replace hb := hb.trans (hb5.mono hb.size)
  refine splitb (decide (0 ≤ f ∧ f < (nf ms : Int))) (fun hf => ?_) (fun hf => ?_)
  rotate_left
  · have hf := of_decide_eq_false hf
    have e := mix_2 (f := f) (g := g) hm' hk' (fun h => hf h.1)
    refine go ?_
    exact end_two Try.results106 rfl rfl ⟨.slice none 0 0, by rw [e.2.2], by rw [mixR_no (by rw [e.2.2]; decide)]; exact OI.nil _ _ _, hb⟩
  have hf' := of_decide_eq_true hf
  refine go ?_
  refine s_call2 (wy rfl rfl rfl rfl rfl known) rfl rfl rfl (l02Flag_any _ _ g _ hv2 k1 g4) ?_
  rintro _ w6 ⟨rfl, hb6⟩
  have sw6 := hb6.size
  replace hv := hv.below hb6
  replace hv2 := hv2.below hb6
  replace hbx := cell_below hbx hb6
  replace hbx2 := cell_below hbx2 hb6
  replace hb := hb.trans (hb6.mono hb.size)
  refine splitb (decide (0 ≤ g ∧ g < (nf ks : Int))) (fun hg => ?_) (fun hg => ?_)
  rotate_left
  · have hg := of_decide_eq_false hg
    have e := mix_2 (f := f) (g := g) hm' hk' (fun h => hg h.2)
    refine go ?_
    exact end_two Try.results106 rfl rfl ⟨.slice none 0 0, by rw [e.2.2], by rw [mixR_no (by rw [e.2.2]; decide)]; exact OI.nil _ _ _, hb⟩
  have hg' := of_decide_eq_true hg
  refine go ?_
  by_cases hl : ms.length = ks.length
  rotate_left
  · have hl' : (ms.length : Int) ≠ ks.length := by omega
    have e := mix_3 hm' hk' hf' hg' hl
    refine go ?_
    exact end_two Try.results106 rfl rfl ⟨.slice none 0 0, by rw [e.2.2], by rw [mixR_no (by rw [e.2.2]; decide)]; exact OI.nil _ _ _, hb⟩
  have hl' : ¬ ((ms.length : Int) ≠ ks.length) := by omega
  have sz0 := hb.size
  refine go ?_
  refine s_call4 (wn rfl) rfl rfl rfl rfl rfl (l08Mix_any _ _ _ _ _ _ _ hv hv2 hm' hk' hl hf' hg') ?_
  rintro _ w7 ⟨ob, rfl, ho, hb7⟩
  have sw7 := hb7.size
  replace hv := hv.below hb7
  replace hv2 := hv2.below hb7
  replace hbx := cell_below hbx hb7
  replace hbx2 := cell_below hbx2 hb7
  replace hb := hb.trans (hb7.mono hb.size)
  have so := ho.sv
  by_cases hok : (mixO ms ks f g).length ≤ 400
  rotate_left
  · have hok' : decide ((mixO ms ks f g).length ≤ 400) = false := decide_eq_false hok
    have e := mix_4 hm' hk' hf' hg' hl hok
    rw [hok']
    refine go ?_
    exact end_two Try.results106 rfl rfl ⟨.slice none 0 0, by rw [e.2.2], by rw [mixR_no (by rw [e.2.2]; decide)]; exact OI.nil _ _ _, hb⟩
  have hok' : decide ((mixO ms ks f g).length ≤ 400) = true := decide_eq_true hok
  have e := mix_5 hm' hk' hf' hg' hl hok
  rw [hok']
  rw [mixQ_yes hok, ← mixR_yes e.2.2] at ho
  refine go ?_
  exact end_two Try.results106 rfl rfl ⟨_, by rw [e.2.2], ho.mono (by omega), hb⟩

end Go.Proofs.Ytmdimdbfgibflaa
