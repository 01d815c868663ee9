/- Contracts: QuotientForms (the reference). -/
import Derived.Test.YtlfomllgmdahfaaF105
import Derived.Test.YtlfomllgmdahfaaF102
namespace Go.Proofs.Ytlfomllgmdahfaa
open Go.Mem Go.RowKit
set_option linter.unusedVariables false
set_option linter.unusedSimpArgs false

set_option maxHeartbeats 32000000 in
set_option maxRecDepth 100000 in
theorem specQuotientForms_any (v : Value) (ms : List (List Int)) (w : World) (hv : RL w v ms) :
    Ret Try.prog 17 #[.agg #[v]] w fun r w' => ∃ x, r = .tuple #[x, .int .i64 (qfC ms)] ∧ RS w' x (qfL ms) ∧ Below w.heap.size w w' := by
  have sv := hv.sv
  refine enter1 78 Try.func17 rfl Try.ntmps17 rfl (fun fr => ?_)
  refine go ?_
  refine s_box (wn rfl) rfl rfl (agg_cells sv) (fun w1 hbx _ hp hg => ?_)
  have hb := below_of_grownBy hg
  replace hv := hv.below hb
  clear hg hp
  generalize (⟨w.heap.size, 0, none⟩ : Addr) = p at *
  refine go ?_
  refine s_call1 (wn rfl) rfl rfl (l02Is_any _ _ _ hv) ?_
  rintro _ w2 ⟨rfl, hb2⟩
  replace hb := hb.trans (hb2.mono hb.size)
  replace hbx := cell_below hbx hb2
  replace hv := hv.below hb2
  refine splitb (decide (IsMan ms)) (fun hmB => ?_) (fun hmB => ?_)
  rotate_left
  · have e := qf_1 (of_decide_eq_false hmB)
    refine go ?_
    exact end_two Try.results17 rfl rfl ⟨_, by rw [e.2], by rw [e.1]; exact (OS.nil _ 0 0 28 32 2).rs, hb⟩
  have hm := of_decide_eq_true hmB
  have hal := auts_le hm
  have r5 := hm.m0.r5
  have r1 := hm.m0.r1
  have f4 := hm.m0.f400
  have f2 := hm.m0.f2
  refine go ?_
  refine s_call1 (wn rfl) rfl rfl (l06All_any _ _ _ hv hm) ?_
  rintro cv w3 ⟨hcv, hb3⟩
  replace hb := hb.trans (hb3.mono hb.size)
  replace hbx := cell_below hbx hb3
  replace hv := hv.below hb3
  have eA : covers ms ms (nf ms) = auts ms := rfl
  rw [eA] at hcv
  have hcr := hcv.rl
  have scv := hcr.sv
  clear hcv
  refine go ?_
  refine s_buildE (B := w3.heap.size) [] (wn rfl) rfl rfl (by decide) rfl (by simp) (Nat.le_refl _) (fun rb w4 hrb hg4 hkb => ?_)
  have hb4 := below_of_grownBy hg4
  have zA := hb.size
  have hplt := World.block_lt_of_cell? _ _ hbx
  refine go ?_
  refine w_loop (fun kk fr w' => ∃ (o : Nat) (rb : Value) (vb : List Value), kk = (auts ms).length - o ∧ o ≤ (auts ms).length ∧ fr 1 = .pointer (some p) ∧ fr 4 = cv ∧ fr 5 = rb ∧ fr 6 = .int .i64 o ∧
      Own w' w3.heap.size 28 rb vb ∧ Els w' 32 2 vb (fmsM (qfT ms o)) ∧ Below w3.heap.size w3 w') (auts ms).length
    ⟨0, rb, [], rfl, Nat.zero_le _, rfl, rfl, rfl, rfl, hrb, Els.nil _ _ _, hb4⟩ ?_
  clear hrb hkb hg4
  rintro kk fr u1 ⟨o, rb, vb, rfl, ho, f1, f4', f5, f6, hrb, hEb, hc⟩
  have zc := hc.size
  have hv1 := hv.below hc
  have hx1 := hcr.below hc
  have hbx1 := cell_below hbx hc
  have hbl := hEb.len
  refine know (t := 1) f1 ?_; refine know (t := 4) f4' ?_; refine know (t := 5) f5 ?_; refine know (t := 6) f6 ?_
  refine go ?_
  refine cond_dec rfl (fun hlt => ?_) (fun hge => ?_)
  · have hom : o < (auts ms).length := by omega
    have hHom := (mem_auts hm).1 (gr_in hom)
    have hsu := qfT_succ hom
    have hall : ∀ j, j < vb.length → 1 ≤ ((fmsM (qfT ms o)).getD j []).length := fun j hj => by
      have h2 : (fmsM (qfT ms o)).getD j [] ∈ fmsM (qfT ms o) := by simp [List.getD, show j < (fmsM (qfT ms o)).length by omega]
      exact (qfT_ok _ _ (((fmsM_ok _).2 _).1 h2)).m0.r1
    have hins := fmsM_snoc (qfT ms o)
    have hFm : (fmsM (qfT ms o)).length ≤ 400 := Nat.le_trans (List.Nodup.length_le_of_subset (fmsM_nodup _) fun a ha => ((fmsM_ok _).2 a).1 ha) (qfT_le hm o)
    have hcut : ((auts ms).take (o + 1)).drop o = [gr (auts ms) o] := by rw [take_gr hom, List.drop_append_of_le_length (by simp; omega)]; simp
    have hA1 : ∀ q ∈ [gr (auts ms) o], Hom ms ms q := fun q hq => by rw [List.mem_singleton.1 hq]; exact hHom
    generalize hpp : gr (auts ms) o = pp at *
    have hsym := homs_sym hm hA1
    generalize hFe : fmsM (qfT ms o) = F at *
    have srb := hrb.sv
    rw [hbl] at srb
    have scb := srb.le
    have hx0 := hx1
    refine go ?_
    refine meet (fun r w' => r 1 = .pointer (some p) ∧ r 4 = cv ∧ r 5 = rb ∧ r 6 = .int .i64 o ∧ ∃ (p7 : Addr) (y : Value) (B E : Nat), r 7 = .pointer (some p7) ∧ Bx w' u1.heap.size p7 28 y ∧ OM w' B E 32 2 y (quoL ms [pp]) ∧ Below u1.heap.size u1 w') ?_ ?_
    · refine region_hS (fun w' => w'.cell? p = some v ∧ RL w' cv (auts ms)) mixed (fun u2 cr => ?_)
      replace hv1 := hv1.below cr
      replace hx1 := hx1.below cr
      replace hbx1 := cell_below hbx1 cr
      refine h_p 0 ⟨hbx1, hx1⟩ ?_ (hrun := fun w' h => by obtain ⟨h1, h2⟩ := h; exact yl)
      refine h_p 1 ⟨hbx1, hx1⟩ ?_ (hrun := fun w' h => by obtain ⟨h1, h2⟩ := h; exact yl)
      refine h_p 3 ⟨hbx1, hx1⟩ ?_ (hrun := fun w' h => by obtain ⟨h1, h2⟩ := h; exact yl)
      refine h_p 4 ⟨hbx1, hx1⟩ ?_ (hrun := fun w' h => by obtain ⟨h1, h2⟩ := h; exact yl)
      refine h_p 5 ⟨hbx1, hx1⟩ ?_ (hrun := fun w' h => by obtain ⟨h1, h2⟩ := h; exact yl)
      refine h_p 6 ⟨hbx1, hx1⟩ ?_ (hrun := fun w' h => by obtain ⟨h1, h2⟩ := h; exact yl)
      refine h_p 7 ⟨hbx1, hx1⟩ ?_ (hrun := fun w' h => y_cutR2E rfl rfl rfl h.2 (by omega) (by omega) (by omega))
      refine h_two 2 10 ?_ ?_
      · skip
        refine s_call1 (wn rfl) rfl rfl (l02Flags_any _ _ _ hv1 r1) ?_
        rintro _ u3 ⟨rfl, hd3⟩
        have hv1 := hv1.below hd3
        have hx1 := hx1.below hd3
        have hbx1 := cell_below hbx1 hd3
        have hd3n := cr.trans (hd3.mono cr.size)
        refine w_nil ?_
        refine h_on ⟨⟨hbx1, hx1⟩, ?_⟩
        refine h_two 8 10 ?_ ?_
        · skip
          have hrl := hx1.cut (l := ((o : Int)).toNat) (r := ((o : Int) + 1).toNat) (by omega) (by omega)
          have hcut2 : ((auts ms).take ((o : Int) + 1).toNat).drop ((o : Int)).toNat = [pp] := hcut
          rw [hcut2] at hrl
          refine s_call2 (wn rfl) rfl rfl rfl (l01Orbits_any _ _ _ _ hrl hsym (by omega) (by simp)) ?_
          rintro lb u4 ⟨hlb, hd4⟩
          have hv1 := hv1.below hd4
          have hx1 := hx1.below hd4
          have hbx1 := cell_below hbx1 hd4
          have hd4n := hd3n.trans (hd4.mono hd3n.size)
          refine w_nil ?_
          refine h_on ⟨⟨hbx1, hx1⟩, ?_⟩
          refine h_two 9 10 ?_ ?_
          · skip
            refine s_call2 (wn rfl) rfl rfl rfl (l07Quotient_any _ _ ms _ [pp] _ hv1 hlb.il hm hA1 rfl) ?_
            rintro _ u5 ⟨y7, rfl, ho7, hd5⟩
            have hv1 := hv1.below hd5
            have hx1 := hx1.below hd5
            have hbx1 := cell_below hbx1 hd5
            have hlb := hlb.below hd5
            have hd5n := hd4n.trans (hd5.mono hd4n.size)
            refine w_nil ?_
            refine h_on ⟨⟨hbx1, hx1⟩, ?_⟩
            refine h_one 10 ?_
            refine s_alloc (B := u1.heap.size) (wn rfl) rfl hd5n.size (fun u6 p12 hbq hgq6 _ => ?_)
            have hd6 := below_of_grownBy hgq6
            have hv1 := hv1.below hd6
            have hx1 := hx1.below hd6
            have hbx1 := cell_below hbx1 hd6
            have hlb := hlb.below hd6
            have ho7 := ho7.below hd6
            have hd6n := hd5n.trans (hd6.mono hd5n.size)
            refine w_nil ?_
            refine h_on ⟨⟨hbx1, hx1⟩, ?_⟩
            refine h_one 11 ?_
            refine s_storeBox (wn rfl) rfl rfl ho7.sv.one hbq (fun u7 hbq2 hgz => ?_)
            have ho8 := ho7.boxE hbq (by decide) (by decide) hgz
            have hbx8 := cell_kept hbx1 hgz (fun e => by have h1 := Option.some.inj e; have h2 := hbq.low; omega)
            have hdz := hd6n.trans (hbq.below_of hgz hd6n.size)
            have hx8 := hx0.below hdz
            refine w_nil ?_
            refine h_on ⟨⟨hbx8, hx8⟩, ?_⟩
            refine h_nil ?_
            exact ⟨rfl, rfl, rfl, rfl, p12, _, _, _, rfl, hbq2, ho8, hdz⟩
          · skip
            refine s_alloc (B := u1.heap.size) (wn rfl) rfl hd4n.size (fun u8 p12 hbq hgq8 _ => ?_)
            have hd8 := below_of_grownBy hgq8
            have hv1 := hv1.below hd8
            have hx1 := hx1.below hd8
            have hbx1 := cell_below hbx1 hd8
            have hlb := hlb.below hd8
            have hd8n := hd4n.trans (hd8.mono hd4n.size)
            refine w_nil ?_
            refine h_on ⟨⟨hbx1, hx1⟩, ?_⟩
            refine h_one 9 ?_
            refine s_call2 (wn rfl) rfl rfl rfl (l07Quotient_any _ _ ms _ [pp] _ hv1 hlb.il hm hA1 rfl) ?_
            rintro _ u9 ⟨y7, rfl, ho7, hd9⟩
            have hv1 := hv1.below hd9
            have hx1 := hx1.below hd9
            have hbx1 := cell_below hbx1 hd9
            have hlb := hlb.below hd9
            have hbq := hbq.below hd9
            have hd9n := hd8n.trans (hd9.mono hd8n.size)
            refine w_nil ?_
            refine h_on ⟨⟨hbx1, hx1⟩, ?_⟩
            refine h_one 11 ?_
            refine s_storeBox (wn rfl) rfl rfl ho7.sv.one hbq (fun u10 hbq2 hgz => ?_)
            have ho8 := ho7.boxE hbq (by decide) (by decide) hgz
            have hbx8 := cell_kept hbx1 hgz (fun e => by have h1 := Option.some.inj e; have h2 := hbq.low; omega)
            have hdz := hd9n.trans (hbq.below_of hgz hd9n.size)
            have hx8 := hx0.below hdz
            refine w_nil ?_
            refine h_on ⟨⟨hbx8, hx8⟩, ?_⟩
            refine h_nil ?_
            exact ⟨rfl, rfl, rfl, rfl, p12, _, _, _, rfl, hbq2, ho8, hdz⟩
        · skip
          refine s_alloc (B := u1.heap.size) (wn rfl) rfl hd3n.size (fun u11 p12 hbq hgq11 _ => ?_)
          have hd11 := below_of_grownBy hgq11
          have hv1 := hv1.below hd11
          have hx1 := hx1.below hd11
          have hbx1 := cell_below hbx1 hd11
          have hd11n := hd3n.trans (hd11.mono hd3n.size)
          refine w_nil ?_
          refine h_on ⟨⟨hbx1, hx1⟩, ?_⟩
          refine h_one 8 ?_
          have hrl := hx1.cut (l := ((o : Int)).toNat) (r := ((o : Int) + 1).toNat) (by omega) (by omega)
          have hcut2 : ((auts ms).take ((o : Int) + 1).toNat).drop ((o : Int)).toNat = [pp] := hcut
          rw [hcut2] at hrl
          refine s_call2 (wn rfl) rfl rfl rfl (l01Orbits_any _ _ _ _ hrl hsym (by omega) (by simp)) ?_
          rintro lb u12 ⟨hlb, hd12⟩
          have hv1 := hv1.below hd12
          have hx1 := hx1.below hd12
          have hbx1 := cell_below hbx1 hd12
          have hbq := hbq.below hd12
          have hd12n := hd11n.trans (hd12.mono hd11n.size)
          refine w_nil ?_
          refine h_on ⟨⟨hbx1, hx1⟩, ?_⟩
          refine h_one 9 ?_
          refine s_call2 (wn rfl) rfl rfl rfl (l07Quotient_any _ _ ms _ [pp] _ hv1 hlb.il hm hA1 rfl) ?_
          rintro _ u13 ⟨y7, rfl, ho7, hd13⟩
          have hv1 := hv1.below hd13
          have hx1 := hx1.below hd13
          have hbx1 := cell_below hbx1 hd13
          have hbq := hbq.below hd13
          have hlb := hlb.below hd13
          have hd13n := hd12n.trans (hd13.mono hd12n.size)
          refine w_nil ?_
          refine h_on ⟨⟨hbx1, hx1⟩, ?_⟩
          refine h_one 11 ?_
          refine s_storeBox (wn rfl) rfl rfl ho7.sv.one hbq (fun u14 hbq2 hgz => ?_)
          have ho8 := ho7.boxE hbq (by decide) (by decide) hgz
          have hbx8 := cell_kept hbx1 hgz (fun e => by have h1 := Option.some.inj e; have h2 := hbq.low; omega)
          have hdz := hd13n.trans (hbq.below_of hgz hd13n.size)
          have hx8 := hx0.below hdz
          refine w_nil ?_
          refine h_on ⟨⟨hbx8, hx8⟩, ?_⟩
          refine h_nil ?_
          exact ⟨rfl, rfl, rfl, rfl, p12, _, _, _, rfl, hbq2, ho8, hdz⟩
      · skip
        refine s_alloc (B := u1.heap.size) (wn rfl) rfl cr.size (fun u15 p12 hbq hgq15 _ => ?_)
        have hd15 := below_of_grownBy hgq15
        have hv1 := hv1.below hd15
        have hx1 := hx1.below hd15
        have hbx1 := cell_below hbx1 hd15
        have hd15n := cr.trans (hd15.mono cr.size)
        refine w_nil ?_
        refine h_on ⟨⟨hbx1, hx1⟩, ?_⟩
        refine h_one 2 ?_
        refine s_call1 (wn rfl) rfl rfl (l02Flags_any _ _ _ hv1 r1) ?_
        rintro _ u16 ⟨rfl, hd16⟩
        have hv1 := hv1.below hd16
        have hx1 := hx1.below hd16
        have hbx1 := cell_below hbx1 hd16
        have hbq := hbq.below hd16
        have hd16n := hd15n.trans (hd16.mono hd15n.size)
        refine w_nil ?_
        refine h_on ⟨⟨hbx1, hx1⟩, ?_⟩
        refine h_one 8 ?_
        have hrl := hx1.cut (l := ((o : Int)).toNat) (r := ((o : Int) + 1).toNat) (by omega) (by omega)
        have hcut2 : ((auts ms).take ((o : Int) + 1).toNat).drop ((o : Int)).toNat = [pp] := hcut
        rw [hcut2] at hrl
        refine s_call2 (wn rfl) rfl rfl rfl (l01Orbits_any _ _ _ _ hrl hsym (by omega) (by simp)) ?_
        rintro lb u17 ⟨hlb, hd17⟩
        have hv1 := hv1.below hd17
        have hx1 := hx1.below hd17
        have hbx1 := cell_below hbx1 hd17
        have hbq := hbq.below hd17
        have hd17n := hd16n.trans (hd17.mono hd16n.size)
        refine w_nil ?_
        refine h_on ⟨⟨hbx1, hx1⟩, ?_⟩
        refine h_one 9 ?_
        refine s_call2 (wn rfl) rfl rfl rfl (l07Quotient_any _ _ ms _ [pp] _ hv1 hlb.il hm hA1 rfl) ?_
        rintro _ u18 ⟨y7, rfl, ho7, hd18⟩
        have hv1 := hv1.below hd18
        have hx1 := hx1.below hd18
        have hbx1 := cell_below hbx1 hd18
        have hbq := hbq.below hd18
        have hlb := hlb.below hd18
        have hd18n := hd17n.trans (hd18.mono hd17n.size)
        refine w_nil ?_
        refine h_on ⟨⟨hbx1, hx1⟩, ?_⟩
        refine h_one 11 ?_
        refine s_storeBox (wn rfl) rfl rfl ho7.sv.one hbq (fun u19 hbq2 hgz => ?_)
        have ho8 := ho7.boxE hbq (by decide) (by decide) hgz
        have hbx8 := cell_kept hbx1 hgz (fun e => by have h1 := Option.some.inj e; have h2 := hbq.low; omega)
        have hdz := hd18n.trans (hbq.below_of hgz hd18n.size)
        have hx8 := hx0.below hdz
        refine w_nil ?_
        refine h_on ⟨⟨hbx8, hx8⟩, ?_⟩
        refine h_nil ?_
        exact ⟨rfl, rfl, rfl, rfl, p12, _, _, _, rfl, hbq2, ho8, hdz⟩
    · skip
      rintro r u9 ⟨g1, g4, g5, g6, p7, y, Bq, Eq, g7, hb7, hy7, hd9⟩
      have zd9 := hd9.size
      replace hrb := hrb.below hd9
      replace hEb := hEb.below hd9
      have hry := hy7.rl
      have hcy := hb7.cell
      clear hv1 hx1 hbx1
      refine know (t := 1) g1 ?_; refine know (t := 4) g4 ?_; refine know (t := 5) g5 ?_; refine know (t := 6) g6 ?_; refine know (t := 7) g7 ?_
      refine go ?_
      refine s_call1 (wn rfl) rfl rfl (l02Is_any _ _ _ hry) ?_
      rintro _ ua ⟨rfl, hda⟩
      have hd9a := hd9.trans (hda.mono hd9.size)
      have zda := hd9a.size
      replace hrb := hrb.below hda
      replace hEb := hEb.below hda
      replace hry := hry.below hda
      replace hcy := cell_below hcy hda
      refine splitb (decide (IsMan (quoL ms [pp]))) (fun hqm => ?_) (fun hqm => ?_)
      rotate_left
      · rw [if_neg (of_decide_eq_false hqm), List.append_nil] at hsu
        refine go ?_
        exact ⟨(auts ms).length - (o + 1), by omega, o + 1, rb, vb, rfl, by omega, rfl, rfl, rfl, rfl, hrb, by rw [hsu, hFe]; exact hEb, hc.trans (hd9a.mono zc)⟩
      have hqm' := of_decide_eq_true hqm
      rw [if_pos hqm'] at hsu
      have hxr1 : 1 ≤ (lst (quoL ms [pp])).length := (qfT_ok (o + 1) _ (by rw [hsu]; simp)).m0.r1
      refine go ?_
      refine s_call1 (wn rfl) rfl rfl (l02Least_any _ _ _ hry hqm') ?_
      rintro _ ub ⟨x, rfl, hox, hdb⟩
      have hd9b := hd9a.trans (hdb.mono hd9a.size)
      generalize hxe : lst (quoL ms [pp]) = xx at *
      have hins := hins xx
      have sox := hox.sv
      refine go ?_
      refine s_alloc (B := ub.heap.size) (wn rfl) rfl (Nat.le_refl _) (fun uc p12 hbq hgc _ => ?_)
      have hdc := below_of_grownBy hgc
      refine go ?_
      refine s_storeBox (wn rfl) rfl rfl sox.one hbq (fun u11 hbq2 hgd => ?_)
      have hdd := hdc.trans (hbq.below_of hgd hdc.size)
      have hd911 := hd9b.trans (hdd.mono hd9b.size)
      have hdb11 := hdb.trans (hdd.mono hdb.size)
      replace hox := hox.below hdd
      replace hrb := hrb.below hdb11
      replace hEb := hEb.below hdb11
      replace hbq := hbq2
      clear hbq2
      have hc11 : Below w3.heap.size w3 u11 := hc.trans (hd911.mono zc)
      refine go ?_
      refine w_loop (fun kk fr w' => ∃ (q : Nat), kk = F.length - q ∧ q ≤ F.length ∧ fr 1 = .pointer (some p) ∧ fr 4 = cv ∧ fr 5 = rb ∧ fr 6 = .int .i64 o ∧ fr 8 = .pointer (some p12) ∧ fr 9 = .int .i64 q ∧ (∀ j, j < q → befM (F.getD j []) xx = true) ∧ Below u11.heap.size u11 w') F.length
        ⟨0, rfl, Nat.zero_le _, rfl, rfl, rfl, rfl, rfl, rfl, fun j hj => by omega, Below.refl _ _⟩ ?_
      rintro kk fr u12 ⟨q, rfl, hqF, g1, g4, g5, g6, g8, g9, hbef, hd12⟩
      replace hrb := hrb.below hd12
      replace hEb := hEb.below hd12
      replace hbq := hbq.below hd12
      replace hox := hox.below hd12
      replace hc11 := hc11.trans (hd12.mono hc11.size)
      refine know (t := 1) g1 ?_; refine know (t := 4) g4 ?_; refine know (t := 5) g5 ?_; refine know (t := 6) g6 ?_; refine know (t := 8) g8 ?_; refine know (t := 9) g9 ?_
      refine go ?_
      refine meet (fun r w' => r 1 = .pointer (some p) ∧ r 4 = cv ∧ r 5 = rb ∧ r 6 = .int .i64 o ∧ r 8 = .pointer (some p12) ∧ r 9 = .int .i64 q ∧ r 49 = .bool (decide (q < F.length) && befM (F.getD q []) xx) ∧ Below u12.heap.size u12 w') ?_ ?_
      · by_cases hq : q < F.length
        · have hqv : q < vb.length := by omega
          obtain ⟨_, _, hu⟩ := hEb.row q (vb.getD q undef) (F.getD q []) (by simp [List.getD, hqv]) (by simp [List.getD, hq])
          have hcu : u12.cell? (addrOf rb ((q : Int)).toNat) = some (vb.getD q undef) := by
            rw [show ((q : Int)).toNat = q by omega]
            exact hrb.rd.cell (by simp [List.getD, hqv])
          have hru := hu.rl
          have hcx := hbq.cell
          have hrx := hox.rl
          have hdt : decide ((q : Int) < (F.length : Int)) = true := decide_eq_true (by omega)
          refine region_hS (fun w' => w'.cell? (addrOf rb ((q : Int)).toNat) = some (vb.getD q undef) ∧ w'.cell? p12 = some x) mixed (fun y1 cr => ?_)
          replace hcu := cell_below hcu cr
          replace hcx := cell_below hcx cr
          replace hru := hru.below cr
          replace hrx := hrx.below cr
          refine h_p 0 ⟨hcu, hcx⟩ ?_ (hrun := fun w' h => by obtain ⟨h1, h2⟩ := h; exact yl)
          refine h_p 1 ⟨hcu, hcx⟩ ?_ (hrun := fun w' h => by obtain ⟨h1, h2⟩ := h; exact yl)
          refine h_p 2 ⟨hcu, hcx⟩ ?_ (hrun := fun w' h => by obtain ⟨h1, h2⟩ := h; exact yl)
          refine h_p 3 ⟨hcu, hcx⟩ ?_ (hrun := fun w' h => by obtain ⟨h1, h2⟩ := h; exact yl)
          rw [hdt]
          refine h_p 4 ⟨hcu, hcx⟩ ?_ (hrun := fun w' h => by obtain ⟨h1, h2⟩ := h; exact yl)
          refine h_p 5 ⟨hcu, hcx⟩ ?_ (hrun := fun w' h => by obtain ⟨h1, h2⟩ := h; exact yl)
          refine h_p 6 ⟨hcu, hcx⟩ ?_ (hrun := fun w' h => by obtain ⟨h1, h2⟩ := h; exact yl)
          refine h_p 7 ⟨hcu, hcx⟩ ?_ (hrun := fun w' h => y_idxSE rfl rfl srb (by omega) (by omega))
          refine h_p 8 ⟨hcu, hcx⟩ ?_ (hrun := fun w' h => by obtain ⟨h1, h2⟩ := h; exact yl)
          refine h_p 9 ⟨hcu, hcx⟩ ?_ (hrun := fun w' h => by obtain ⟨h1, h2⟩ := h; exact yl)
          refine h_one 10 ?_
          refine s_call2 (wy rfl rfl rfl rfl rfl known) rfl rfl rfl (l04Before_any _ _ _ _ _ hru hrx (hall q hqv) hxr1) ?_
          rintro _ y2 ⟨rfl, hd2⟩
          replace hcu := cell_below hcu hd2
          replace hcx := cell_below hcx hd2
          refine w_nil ?_
          refine h_on ⟨⟨hcu, hcx⟩, ?_⟩
          refine h_p 11 ⟨hcu, hcx⟩ ?_ (hrun := fun w' h => y_pick_true rfl known rfl)
          refine h_nil ?_
          exact ⟨rfl, rfl, rfl, rfl, rfl, rfl, by show Value.bool _ = _; simp [hq], cr.trans (hd2.mono cr.size)⟩
        · have hdt : decide ((q : Int) < (F.length : Int)) = false := decide_eq_false (by omega)
          refine region_hS (fun w' => True) mixed (fun y1 cr => ?_)
          refine h_p 0 trivial ?_ (hrun := fun w' h => yl)
          refine h_p 1 trivial ?_ (hrun := fun w' h => yl)
          refine h_p 2 trivial ?_ (hrun := fun w' h => yl)
          refine h_p 3 trivial ?_ (hrun := fun w' h => yl)
          rw [hdt]
          refine h_p 4 trivial ?_ (hrun := fun w' h => yl)
          refine h_no 5 trivial ?_
          refine h_no 6 trivial ?_
          refine h_no 7 trivial ?_
          refine h_no 8 trivial ?_
          refine h_no 9 trivial ?_
          refine h_no 10 trivial ?_
          refine h_p 11 trivial ?_ (hrun := fun w' h => y_pick_false rfl known rfl)
          refine h_nil ?_
          exact ⟨rfl, rfl, rfl, rfl, rfl, rfl, by show Value.bool _ = _; simp [hq], cr⟩
      · skip
        rintro r u13 ⟨g1, g4, g5, g6, g8, g9, g49, hd13⟩
        replace hrb := hrb.below hd13
        replace hEb := hEb.below hd13
        replace hbq := hbq.below hd13
        replace hox := hox.below hd13
        replace hc11 := hc11.trans (hd13.mono hc11.size)
        refine know (t := 1) g1 ?_; refine know (t := 4) g4 ?_; refine know (t := 5) g5 ?_; refine know (t := 6) g6 ?_; refine know (t := 8) g8 ?_; refine know (t := 9) g9 ?_; refine know (t := 49) g49 ?_
        refine splitb (decide (q < F.length) && befM (F.getD q []) xx) (fun hbb => ?_) (fun hbb => ?_)
        · have hbb2 : q < F.length ∧ befM (F.getD q []) xx = true := by simpa using hbb
          refine go ?_
          exact ⟨F.length - (q + 1), by omega, q + 1, rfl, by omega, rfl, rfl, rfl, rfl, rfl, rfl, fun j hj => by by_cases hjq : j = q; (subst hjq; exact hbb2.2); exact hbef j (by omega), hd12.trans (hd13.mono hd12.size)⟩
        have hat := insM_at F xx q hqF hbef hbb
        refine go ?_
        refine meet (fun r w' => r 1 = .pointer (some p) ∧ r 4 = cv ∧ r 5 = rb ∧ r 6 = .int .i64 o ∧ r 8 = .pointer (some p12) ∧ r 9 = .int .i64 q ∧ r 63 = .bool (decide (q < F.length) && decide (F.getD q [] = xx)) ∧ Below u13.heap.size u13 w') ?_ ?_
        · by_cases hq : q < F.length
          · have hqv : q < vb.length := by omega
            obtain ⟨_, _, hu⟩ := hEb.row q (vb.getD q undef) (F.getD q []) (by simp [List.getD, hqv]) (by simp [List.getD, hq])
            have hcu : u13.cell? (addrOf rb ((q : Int)).toNat) = some (vb.getD q undef) := by
              rw [show ((q : Int)).toNat = q by omega]
              exact hrb.rd.cell (by simp [List.getD, hqv])
            have hru := hu.rl
            have hcx := hbq.cell
            have hrx := hox.rl
            have hdt : decide ((q : Int) < (F.length : Int)) = true := decide_eq_true (by omega)
            refine region_hS (fun w' => w'.cell? (addrOf rb ((q : Int)).toNat) = some (vb.getD q undef) ∧ w'.cell? p12 = some x) mixed (fun y1 cr => ?_)
            replace hcu := cell_below hcu cr
            replace hcx := cell_below hcx cr
            replace hru := hru.below cr
            replace hrx := hrx.below cr
            refine h_p 0 ⟨hcu, hcx⟩ ?_ (hrun := fun w' h => by obtain ⟨h1, h2⟩ := h; exact yl)
            refine h_p 1 ⟨hcu, hcx⟩ ?_ (hrun := fun w' h => by obtain ⟨h1, h2⟩ := h; exact yl)
            refine h_p 2 ⟨hcu, hcx⟩ ?_ (hrun := fun w' h => by obtain ⟨h1, h2⟩ := h; exact yl)
            refine h_p 3 ⟨hcu, hcx⟩ ?_ (hrun := fun w' h => by obtain ⟨h1, h2⟩ := h; exact yl)
            rw [hdt]
            refine h_p 4 ⟨hcu, hcx⟩ ?_ (hrun := fun w' h => by obtain ⟨h1, h2⟩ := h; exact yl)
            refine h_p 5 ⟨hcu, hcx⟩ ?_ (hrun := fun w' h => by obtain ⟨h1, h2⟩ := h; exact yl)
            refine h_p 6 ⟨hcu, hcx⟩ ?_ (hrun := fun w' h => by obtain ⟨h1, h2⟩ := h; exact yl)
            refine h_p 7 ⟨hcu, hcx⟩ ?_ (hrun := fun w' h => y_idxSE rfl rfl srb (by omega) (by omega))
            refine h_p 8 ⟨hcu, hcx⟩ ?_ (hrun := fun w' h => by obtain ⟨h1, h2⟩ := h; exact yl)
            refine h_p 9 ⟨hcu, hcx⟩ ?_ (hrun := fun w' h => by obtain ⟨h1, h2⟩ := h; exact yl)
            refine h_one 10 ?_
            refine s_call2 (wy rfl rfl rfl rfl rfl known) rfl rfl rfl (l02Same_any _ _ _ _ _ hru hrx) ?_
            rintro _ y2 ⟨rfl, hd2⟩
            replace hcu := cell_below hcu hd2
            replace hcx := cell_below hcx hd2
            refine w_nil ?_
            refine h_on ⟨⟨hcu, hcx⟩, ?_⟩
            refine h_p 11 ⟨hcu, hcx⟩ ?_ (hrun := fun w' h => y_pick_true rfl known rfl)
            refine h_nil ?_
            exact ⟨rfl, rfl, rfl, rfl, rfl, rfl, by show Value.bool _ = _; simp [hq], cr.trans (hd2.mono cr.size)⟩
          · have hdt : decide ((q : Int) < (F.length : Int)) = false := decide_eq_false (by omega)
            refine region_hS (fun w' => True) mixed (fun y1 cr => ?_)
            refine h_p 0 trivial ?_ (hrun := fun w' h => yl)
            refine h_p 1 trivial ?_ (hrun := fun w' h => yl)
            refine h_p 2 trivial ?_ (hrun := fun w' h => yl)
            refine h_p 3 trivial ?_ (hrun := fun w' h => yl)
            rw [hdt]
            refine h_p 4 trivial ?_ (hrun := fun w' h => yl)
            refine h_no 5 trivial ?_
            refine h_no 6 trivial ?_
            refine h_no 7 trivial ?_
            refine h_no 8 trivial ?_
            refine h_no 9 trivial ?_
            refine h_no 10 trivial ?_
            refine h_p 11 trivial ?_ (hrun := fun w' h => y_pick_false rfl known rfl)
            refine h_nil ?_
            exact ⟨rfl, rfl, rfl, rfl, rfl, rfl, by show Value.bool _ = _; simp [hq], cr⟩
        · skip
          rintro r u14 ⟨g1, g4, g5, g6, g8, g9, g63, hd14⟩
          replace hrb := hrb.below hd14
          replace hEb := hEb.below hd14
          replace hbq := hbq.below hd14
          replace hox := hox.below hd14
          replace hc11 := hc11.trans (hd14.mono hc11.size)
          refine know (t := 1) g1 ?_; refine know (t := 4) g4 ?_; refine know (t := 5) g5 ?_; refine know (t := 6) g6 ?_; refine know (t := 8) g8 ?_; refine know (t := 9) g9 ?_; refine know (t := 63) g63 ?_
          refine splitb (decide (q < F.length) && decide (F.getD q [] = xx)) (fun hsm => ?_) (fun hsm => ?_)
          · rw [if_pos hsm] at hat
            refine go ?_
            exact ⟨(auts ms).length - (o + 1), by omega, o + 1, rb, vb, rfl, by omega, rfl, rfl, rfl, rfl, hrb, by rw [hsu, hins, hat]; exact hEb, hc11⟩
          rw [if_neg (by rw [hsm]; simp)] at hat
          have hcx := hbq.cell
          have hrblt : ∀ g, rb.ownBlock = some g → g < u14.heap.size := fun g hg => (hrb.lt g hg).2
          have hpqlt := hbq.lt
          refine go ?_
          refine region_hS (fun w' => w'.cell? p12 = some x ∧ Own w' w3.heap.size 28 rb vb) mixed (fun u15 cr => ?_)
          replace hcx := cell_below hcx cr
          replace hrb := hrb.below cr
          have zr := cr.size
          refine h_p 0 ⟨hcx, hrb⟩ ?_ (hrun := fun w' h => by obtain ⟨h1, h2⟩ := h; exact yl)
          refine h_p 2 ⟨hcx, hrb⟩ ?_ (hrun := fun w' h => by obtain ⟨h1, h2⟩ := h; exact yl)
          refine h_p 3 ⟨hcx, hrb⟩ ?_ (hrun := fun w' h => by obtain ⟨h1, h2⟩ := h; exact yl)
          refine h_p 4 ⟨hcx, hrb⟩ ?_ (hrun := fun w' h => y_cut_loE rfl rfl h.2.rd (by omega) (by omega))
          refine h_one 1 ?_
          refine s_buildE (B := u14.heap.size) [x] (wn rfl) rfl rfl (by decide) rfl (by simpa using sox.one) zr (fun tc u16 htc hg16 _ => ?_)
          have hd16 := below_of_grownBy hg16
          replace hcx := cell_below hcx hd16
          replace hrb := hrb.below hd16
          have cr16 := cr.trans (hd16.mono zr)
          refine w_nil ?_
          refine h_on ⟨⟨hcx, hrb⟩, ?_⟩
          refine h_one 5 ?_
          have hone := hEb.one
          have hct := hrb.rd.cut (l := q) (r := vb.length) (by omega) (Nat.le_refl _)
          rw [List.take_length] at hct
          have heq : ((q : Int)).toNat = q := by omega
          rw [heq]
          refine s_appendE (wn rfl) rfl rfl rfl htc hct (fun u hu => hone u (List.mem_of_mem_drop hu)) (by simp; omega) cr16.size (fun td u17 htd hg17 _ => ?_)
          have cr17 := cr16.trans (grownBy_below hg17 cr16.size (fun g hg => (htc.lt g hg).1))
          have hd17 : Below u16.heap.size u16 u17 ∨ True := .inr trivial
          have hrb17 := hrb.kept hg17 (by
            cases hob : rb.ownBlock with
            | none => exact .inl rfl
            | some g => exact .inr (fun e => by have h1 := (htc.lt g e.symm).1; have h2 := hrblt g hob; omega))
          have hcx17 := cell_kept hcx hg17 (fun e => by have h1 := (htc.lt _ e.symm).1; have h2 := hpqlt; omega)
          refine w_nil ?_
          refine h_on ⟨⟨hcx17, hrb17⟩, ?_⟩
          refine h_p 6 ⟨hcx17, hrb17⟩ ?_ (hrun := fun w' h => by obtain ⟨h1, h2⟩ := h; exact yl)
          refine h_nil ?_
          clear hrb
          have hEb17 := hEb.below cr17
          have hox17 := hox.below cr17
          have hc17 := hc11.trans (cr17.mono hc11.size)
          have zq := cr17.size
          have zc17 := hc17.size
          refine go ?_
          refine s_buildE (B := u17.heap.size) [] (wn rfl) rfl rfl (by decide) rfl (by simp) (Nat.le_refl _) (fun te u18 hte hg18 _ => ?_)
          have hd18 := below_of_grownBy hg18
          have hrb18 := hrb17.below hd18
          have htd18 := htd.below hd18
          have zq18 := hd18.size
          refine go ?_
          refine s_p (wn rfl) rfl (y_cut_hiE rfl rfl hrb18.rd (by omega) (by omega)) ?_
          rw [heq]
          have hct2 := hrb18.rd.cut (l := 0) (r := q) (by omega) (by omega)
          rw [List.drop_zero] at hct2
          refine go ?_
          refine s_appendE (wn rfl) rfl rfl rfl hte hct2 (fun u hu => hone u (List.mem_of_mem_take hu)) (by simp; omega) zq18 (fun tf u19 htf hg19 _ => ?_)
          have hd19 := hd18.trans (grownBy_below hg19 hd18.size (fun g hg => (hte.lt g hg).1))
          have htd19 := htd.below hd19
          refine go ?_
          refine s_appendE (wn rfl) rfl rfl rfl htf htd19.rd (by intro u hu; simp at hu; rcases hu with h | h; (rw [h]; exact sox.one); exact hone u (List.mem_of_mem_drop h)) (by simp; omega) hd19.size (fun tg u20 htg hg20 _ => ?_)
          have hd20 := hd19.trans (grownBy_below hg20 hd19.size (fun g hg => (htf.lt g hg).1))
          have zq20 := hd20.size
          refine go ?_
          refine ⟨(auts ms).length - (o + 1), by omega, o + 1, tg, _, rfl, by omega, rfl, rfl, rfl, rfl, htg.mono (by omega), ?_, hc17.trans (hd20.mono zc17)⟩
          · rw [hsu, hins, hat]
            have h3 := (hEb17.take q).app ((Els.single hox17).app (hEb17.drop q))
            have h4 := h3.below hd20
            simpa using h4
  obtain rfl : o = (auts ms).length := by omega
  have e := qf_2 hm
  have hbz := hb.trans (hc.mono zA)
  refine go ?_
  exact end_two Try.results17 rfl rfl ⟨_, by rw [e.2], by rw [e.1]; exact ⟨vb, hrb.rd, hbl, fun a b c h1 h2 => by obtain ⟨_, _, h⟩ := hEb.row a b c h1 h2; exact h.rl⟩, hbz⟩
end Go.Proofs.Ytlfomllgmdahfaa
