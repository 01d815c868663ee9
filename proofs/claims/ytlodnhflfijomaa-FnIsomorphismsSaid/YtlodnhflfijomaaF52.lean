/- Contracts: polygons; systems renumbered. -/
import Derived.Test.YtlodnhflfijomaaF51
import Derived.Test.YtlodnhflfijomaaF43
namespace Go.Mem
open Go.RowKit
set_option linter.unusedVariables false
section
variable {w : World} {B E : Nat} {T U : TypeId} {u1 u2 : Value} {xs ys : List Int}
theorem Rws.two (h1 : OI w B U u1 xs) (h2 : OI w B U u2 ys) (hap : u1.ownBlock = none ∨ u1.ownBlock ≠ u2.ownBlock) : Rws w B w.heap.size U [u1, u2] [xs, ys] := by
  refine ⟨fun a ha => ?_, rfl, fun i a zs ha hz => ?_, fun i a ha g hg => ?_, fun i j a b hij ha hb => ?_⟩
  · simp at ha; rcases ha with rfl | rfl
    · exact h1.sv.one
    · exact h2.sv.one
  · match i, ha, hz with
    | 0, ha, hz => simp at ha hz; subst ha hz; exact h1
    | 1, ha, hz => simp at ha hz; subst ha hz; exact h2
    | i + 2, ha, hz => simp at ha
  · match i, ha with
    | 0, ha => simp at ha; subst ha; exact (h1.lt g hg).2
    | 1, ha => simp at ha; subst ha; exact (h2.lt g hg).2
    | i + 2, ha => simp at ha
  · match i, j, ha, hb with
    | 0, 1, ha, hb => simp at ha hb; subst ha hb; exact hap
    | 0, j + 2, ha, hb => simp at hb
    | 1, j + 2, ha, hb => simp at hb
    | i + 2, j, ha, hb => simp at ha
    | 1, 1, _, _ => omega
    | 1, 0, _, _ => omega
    | 0, 0, _, _ => omega
end
section
variable {P : Program} {ops : Array Oper} {Q : Exit → Fm → World → Prop} {n : Nat} {f : Fm} {w : World} {rest : List Oper} {ty : TypeId} {pos : String} {after : Array Edge} {g : Option (Nat × Bool)} {d : Nat}
theorem s_build2V {B : Nat} {t e : TypeId} {z : Value} {bytes : Nat} {x y : Operand} {u v0 : Value} [ht : SliceTy P t e] [he : CellTy P e z bytes]
    (hw : Wants ⟨some d, .buildSlice t 2 #[(0, x), (1, y)], ty, pos, after, g⟩ ops n f) (hd : Nat.ble (d + 1) n = true)
    (hx : lk n f x = some u) (hy : lk n f y = some v0) (hu : u.oneCell' = true) (hv : v0.oneCell' = true) (hB : B ≤ w.heap.size)
    (k : ∀ v w', Own w' B e v [u, v0] → SV v 2 → w.grownBy w' none → v.ownBlock = some w.heap.size → WL P ops Q rest n (.upd f d v) w') :
    WL P ops Q (⟨some d, .buildSlice t 2 #[(0, x), (1, y)], ty, pos, after, g⟩ :: rest) n f w :=
  s_build [u, v0] hw hd (by simp [lk_evo hx, lk_evo hy]; rfl) (by decide) rfl (by intro a ha; simp at ha; rcases ha with rfl | rfl <;> assumption) hB fun v w' ho hg hb => k v w' ho ho.rd.sv hg hb
end
theorem Syst.nf {n : Nat} {ms : List (List Int)} (h : Syst n ms) (h1 : 1 ≤ ms.length) : nf ms = n := (h.row (j := 0) (by omega) (by omega)).1
theorem Syst.two {n : Nat} {xs ys : List Int} (h1 : xs.length = n) (h2 : ys.length = n) (h3 : ∀ x ∈ xs, 0 ≤ x ∧ x < n) (h4 : ∀ x ∈ ys, 0 ≤ x ∧ x < n) : Syst n [xs, ys] := by
  intro m hm
  simp at hm
  rcases hm with rfl | rfl
  · exact ⟨h1, h3⟩
  · exact ⟨h2, h4⟩
theorem laidTo_rng {R : Int → Prop} {N : Nat} {ps : List Int} {g : Nat → Int} (h0 : R 0) (hg : ∀ j : Nat, j < ps.length → R (g j)) : ∀ k, k ≤ ps.length → ∀ x ∈ laidTo N ps g k, R x
  | 0, _, x, hx => by
    unfold laidTo at hx
    have := (List.mem_replicate.1 (by simpa using hx)).2
    subst this; exact h0
  | k + 1, hk, x, hx => by
    have e : laidTo N ps g (k + 1) = seti (laidTo N ps g k) (gi ps k) (g k) := rfl
    rw [e] at hx
    exact seti_all (laidTo_rng h0 hg k (by omega)) (hg k (by omega)) x hx
theorem Syst.ren {n : Nat} {ms : List (List Int)} {p : List Int} (h : Syst n ms) (hp : p.length = n) (hr : ∀ x ∈ p, 0 ≤ x ∧ x < n) : Syst n (ren ms p) := by
  intro m hm
  obtain ⟨r, hr0, rfl⟩ := List.mem_map.1 hm
  refine ⟨by rw [length_laidTo]; exact hp, ?_⟩
  by_cases hn : n = 0
  · subst hn
    have hp0 : p = [] := List.length_eq_zero_iff.1 hp
    subst hp0
    intro x hx
    have hl := length_laidTo ([] : List Int).length [] (fun f : Nat => gi ([] : List Int) (gi r f)) ([] : List Int).length
    have := List.length_pos_of_mem hx
    rw [hl] at this; simp at this
  · refine laidTo_rng (by omega) (fun j hj => ?_) _ (Nat.le_refl _)
    have hrow := h r hr0
    have h1 := hrow.2 _ (gi_mem (xs := r) (j := (j : Int)) (by omega) (by omega))
    exact hr _ (gi_mem (by omega) (by omega))
end Go.Mem
namespace Go.Proofs.Ytlodnhflfijomaa
open Go.Mem Go.RowKit
set_option linter.unusedVariables false
set_option linter.unusedSimpArgs false

set_option maxHeartbeats 8000000 in
set_option maxRecDepth 100000 in
theorem l02Polygon_any (p : Int) (N : Nat) (w : World) (ep : p = N) (h1 : 1 ≤ N) (hN : N ≤ 100000) :
    Ret Try.prog 162 #[.int .i64 p] w fun r w' => ∃ x xss, r = .agg #[x] ∧ OM w' w.heap.size w'.heap.size 40 2 x xss ∧ xss.length = 2 ∧ Syst (2 * N) xss ∧ Below w.heap.size w w' := by
  refine enter1 51 Try.func162 rfl Try.ntmps162 rfl (fun fr => ?_)
  refine go2 ?_
  refine s_alloc (B := w.heap.size) (wn rfl) rfl (Nat.le_refl _) (fun w1 p2 hx2 hg1 hp2 => ?_)
  have hb1 := below_of_grownBy hg1
  have z1 := hb1.size
  have hlt2 := hx2.lt
  refine go2 ?_
  refine s_p (wn rfl) rfl (y_mul rfl rfl (by constructor <;> omega)) ?_
  refine go2 ?_
  have en2 : (2 * p).toNat = 2 * N := by omega
  refine meet (fun fr w' => ∃ (fv sv : Value), fr 2 = .pointer (some p2) ∧ fr 3 = .int .i64 (2 * p) ∧ fr 4 = fv ∧ fr 5 = sv ∧ OI w' w1.heap.size 2 fv (List.replicate (2 * N) 0) ∧ OI w' w1.heap.size 2 sv (List.replicate (2 * N) 0) ∧ (fv.ownBlock = none ∨ fv.ownBlock ≠ sv.ownBlock) ∧ Below w1.heap.size w1 w') ?_ ?_
  · refine region_h mixed (fun wr cr => ?_)
    have zr := cr.size
    refine h_p 0 cr ?_
    refine h_p 2 cr ?_
    refine h_two 1 3 ?_ ?_
    · refine s_makeI (B := w1.heap.size) (wn rfl) rfl rfl rfl (by omega) (by omega) (by omega) (fun fv wa hf so hga hbka => ?_)
      have hba := below_of_grownBy hga
      have ca := cr.trans (hba.mono cr.size)
      have za := ca.size
      refine w_nil ?_
      refine h_on ⟨ca, ?_⟩
      refine h_p 4 ca ?_
      refine h_one 3 ?_
      refine s_makeI (B := w1.heap.size) (wn rfl) rfl rfl rfl (by omega) (by omega) (by omega) (fun sv wb hs so2 hgb hbkb => ?_)
      have hbb := below_of_grownBy hgb
      have cb := ca.trans (hbb.mono ca.size)
      refine w_nil ?_
      refine h_on ⟨cb, ?_⟩
      refine h_p 5 cb ?_
      refine h_nil ?_
      rw [en2] at hf hs
      refine ⟨fv, sv, rfl, rfl, rfl, rfl, hf.below hbb, hs, .inr ?_, cb⟩
      rw [hbka, hbkb]; intro e; have := Option.some.inj e; have := (hf.lt _ hbka).2; omega
    · refine s_makeI (B := w1.heap.size) (wn rfl) rfl rfl rfl (by omega) (by omega) (by omega) (fun sv wa hs so hga hbka => ?_)
      have hba := below_of_grownBy hga
      have ca := cr.trans (hba.mono cr.size)
      have za := ca.size
      refine w_nil ?_
      refine h_on ⟨ca, ?_⟩
      refine h_one 1 ?_
      refine s_makeI (B := w1.heap.size) (wn rfl) rfl rfl rfl (by omega) (by omega) (by omega) (fun fv wb hf so2 hgb hbkb => ?_)
      have hbb := below_of_grownBy hgb
      have cb := ca.trans (hbb.mono ca.size)
      refine w_nil ?_
      refine h_on ⟨cb, ?_⟩
      refine h_p 4 cb ?_
      refine h_p 5 cb ?_
      refine h_nil ?_
      rw [en2] at hf hs
      refine ⟨fv, sv, rfl, rfl, rfl, rfl, hf, hs.below hbb, .inr ?_, cb⟩
      rw [hbka, hbkb]; intro e; have := Option.some.inj e; have := (hs.lt _ hbka).2; omega
  rintro fr wm ⟨fv, sv, f2, f3, f4, f5, hf, hs, hap, cm⟩
  refine know (t := 2) f2 ?_; refine know (t := 3) f3 ?_; refine know (t := 4) f4 ?_; refine know (t := 5) f5 ?_
  refine go2 ?_
  refine w_loop (fun kk fr w' => ∃ (i : Nat) (L1 L2 : List Int), kk = 2 * N - i ∧ i ≤ 2 * N ∧ fr 2 = .pointer (some p2) ∧ fr 3 = .int .i64 (2 * p) ∧ fr 4 = fv ∧ fr 5 = sv ∧ fr 6 = .int .i64 i ∧ OI w' w1.heap.size 2 fv L1 ∧ OI w' w1.heap.size 2 sv L2 ∧ L1.length = 2 * N ∧ L2.length = 2 * N ∧ (∀ x ∈ L1, 0 ≤ x ∧ x < (2 * N : Nat)) ∧ (∀ x ∈ L2, 0 ≤ x ∧ x < (2 * N : Nat)) ∧ Below w1.heap.size w1 w') (2 * N)
    ⟨0, _, _, rfl, Nat.zero_le _, rfl, rfl, rfl, rfl, rfl, hf, hs, by simp, by simp, fun x hx => by
      have := (List.mem_replicate.1 hx).2; subst this; omega, fun x hx => by
      have := (List.mem_replicate.1 hx).2; subst this; omega, cm⟩ ?_
  clear hf hs cm f2 f3 f4 f5
  rintro kk fr w2 ⟨i, L1, L2, rfl, hi, f2, f3, f4, f5, f6, hf, hs, l1, l2, r1, r2, cm⟩
  have hap2 : fv.ownBlock = none ∨ fv.ownBlock ≠ sv.ownBlock := hap
  have hap3 : sv.ownBlock = none ∨ sv.ownBlock ≠ fv.ownBlock := by
    rcases hap with h | h
    · cases e : sv.ownBlock with
      | none => exact .inl rfl
      | some k => exact .inr (by rw [h]; simp)
    · exact .inr (fun e => h e.symm)
  have sf := hf.sv
  have ss := hs.sv
  have zm := cm.size
  have hx2m := hx2.below cm
  refine know (t := 2) f2 ?_; refine know (t := 3) f3 ?_; refine know (t := 4) f4 ?_; refine know (t := 5) f5 ?_; refine know (t := 6) f6 ?_
  refine go2 ?_
  refine cond_dec rfl (fun hlt => ?_) (fun hge => ?_)
  · have hN2 : 1 ≤ 2 * p := by omega
    refine go2 ?_
    refine cond_dec rfl (fun hev => ?_) (fun hod => ?_)

    · refine go2 ?_
      refine s_storeI (wn rfl) rfl rfl hf (by omega) (by omega) (fun w3 hfN hgN => ?_)
      have hs3 := hs.kept hgN hap3
      have c3 := cm.trans (hf.below_of hgN cm.size)
      have l3 := seti_len L1 (i : Int) ((i : Int) + 1)
      have z3 := c3.size
      have ss3 := hs3.sv
      refine go2 ?_
      refine s_storeI (wn rfl) rfl rfl hs3 (by omega) (by omega) (fun w4 hsN hgN2 => ?_)
      have hf4 := hfN.kept hgN2 hap2
      have c4 := c3.trans (hs3.below_of hgN2 c3.size)
      refine go2 ?_
      exact ⟨2 * N - (i + 1), by omega, i + 1, _, _, rfl, by omega, rfl, rfl, rfl, rfl, rfl, hf4, hsN, by rw [seti_len]; exact l1, by rw [seti_len]; exact l2, seti_all r1 (by omega), seti_all r2 (by
        refine ⟨Int.emod_nonneg _ (by omega), ?_⟩
        have := Int.emod_lt_of_pos ((i : Int) + 2 * p - 1) (show 0 < 2 * p by omega)
        omega), c4⟩
    · refine go2 ?_
      refine s_storeI (wn rfl) rfl rfl hf (by omega) (by omega) (fun w3 hfN hgN => ?_)
      have hs3 := hs.kept hgN hap3
      have c3 := cm.trans (hf.below_of hgN cm.size)
      have l3 := seti_len L1 (i : Int) ((i : Int) - 1)
      have z3 := c3.size
      have ss3 := hs3.sv
      refine go2 ?_
      refine s_storeI (wn rfl) rfl rfl hs3 (by omega) (by omega) (fun w4 hsN hgN2 => ?_)
      have hf4 := hfN.kept hgN2 hap2
      have c4 := c3.trans (hs3.below_of hgN2 c3.size)
      refine go2 ?_
      exact ⟨2 * N - (i + 1), by omega, i + 1, _, _, rfl, by omega, rfl, rfl, rfl, rfl, rfl, hf4, hsN, by rw [seti_len]; exact l1, by rw [seti_len]; exact l2, seti_all r1 (by omega), seti_all r2 (by
        refine ⟨Int.emod_nonneg _ (by omega), ?_⟩
        have := Int.emod_lt_of_pos ((i : Int) + 1) (show 0 < 2 * p by omega)
        omega), c4⟩
  · obtain rfl : i = 2 * N := by omega
    refine go2 ?_
    refine s_build2V (B := w1.heap.size) (wn rfl) rfl rfl rfl sf.one ss.one zm (fun tb w3 ht st hg3 _ => ?_)
    have hb3 := below_of_grownBy hg3
    have c3 := cm.trans (hb3.mono cm.size)
    have hx := ((Rws.two hf hs hap2).below hb3).om ht
    have hx23 := hx2m.below hb3
    refine go2 ?_
    refine s_p (wn rfl) rfl (y_bld1 rfl st.one) ?_
    refine s_storeBox (wn rfl) rfl rfl st.one hx23 (fun w4 hxz hgz => ?_)
    have hbz := (hb1.trans (c3.mono hb1.size)).trans (hx23.below_of hgz (Nat.le_trans hb1.size c3.size))
    have hxN := hx.kept hgz (by omega)
    refine go2 ?_
    exact end_cell Try.results162 rfl hxz.cell ⟨tb, _, rfl, ((hxN.wide (by have := hgz.size; have := hb3.size; omega)).mono (by omega)), rfl, Syst.two l1 l2 r1 r2, hbz⟩

set_option maxHeartbeats 8000000 in
set_option maxRecDepth 100000 in
theorem l02RenumberS_any (v : Value) (v2 : Value) (ms : List (List Int)) (ps : List Int) (n : Nat) (w : World) (hv : RL w v ms) (hv2 : IL w v2 ps) (hs : Syst n ms) (r1 : 1 ≤ ms.length) (r5 : ms.length ≤ 1000) (f4 : n ≤ 1000) (hpl : ps.length = n) (hpr : ∀ x : Int, 0 ≤ x → x < n → 0 ≤ gi ps x ∧ gi ps x < n) :
    Ret Try.prog 106 #[.agg #[v], v2] w fun r w' => ∃ x, r = .agg #[x] ∧ OM w' w.heap.size w'.heap.size 40 2 x (ren ms ps) ∧ Below w.heap.size w w' := by
  have shv := hv.sv
  have shv2 := hv2.sv
  have hb := Below.refl w.heap.size w
  refine enter2 50 Try.func106 rfl Try.ntmps106 rfl (fun fr => ?_)
  unfold ren
  refine go ?_
  refine s_box (wn rfl) rfl rfl (agg_cells shv) (fun w1 hbx _ hp hg => ?_)
  have hb1 := below_of_grownBy hg
  have sw1 := hb1.size
  replace hv := hv.below hb1
  replace hv2 := hv2.below hb1
  replace hb := hb.trans (hb1.mono hb.size)
  clear hg hp hb1
  generalize (⟨w.heap.size, 0, none⟩ : Addr) = p at *
  have sz0 := hb.size
  refine go ?_
  refine s_alloc (B := w.heap.size) (wn rfl) rfl (by first | exact Nat.le_refl _ | omega) (fun w2 p4 hx4 hg2 hpp4 => ?_)
  have hb2 := below_of_grownBy hg2
  have sw2 := hb2.size
  replace hv := hv.below hb2
  replace hv2 := hv2.below hb2
  replace hbx := cell_below hbx hb2
  replace hb := hb.trans (hb2.mono hb.size)
  have hlt_hx4 := hx4.lt
  have sz1 := hb.size
  have sbs1 := hb.size
  have hv_b1 := hv
  have hv2_b1 := hv2
  have hbx_b1 := hbx
  have hx4_b1 := hx4
  have hbB1 := Below.refl w2.heap.size w2
  refine go ?_
  refine s_p (wn rfl) rfl y_bld0 ?_
  refine go ?_
  refine s_alloc (B := w2.heap.size) (wn rfl) rfl (by first | exact Nat.le_refl _ | omega) (fun w3 p5 hx5 hg3 hpp5 => ?_)
  have hb3 := below_of_grownBy hg3
  have sw3 := hb3.size
  replace hv := hv.below hb3
  replace hv2 := hv2.below hb3
  replace hbx := cell_below hbx hb3
  replace hx4 := hx4.below hb3
  replace hbB1 := hbB1.trans (hb3.mono hbB1.size)
  have hlt_hx5 := hx5.lt
  refine go ?_
  refine s_storeBox (wn rfl) rfl rfl rfl hx5 (fun w4 hxN hgN => ?_)
  replace hbB1 := hbB1.trans (hx5.below_of hgN hbB1.size)
  have sw4 := hgN.size
  replace hx5 := hxN
  replace hv := hv_b1.below hbB1
  replace hv2 := hv2_b1.below hbB1
  replace hbx := cell_below hbx_b1 hbB1
  replace hx4 := hx4_b1.below hbB1
  refine go ?_
  refine w_loop (fun kk fr w' => ∃ (i : Nat) (ob : Value), kk = ms.length - i ∧ i ≤ ms.length ∧ fr 1 = v2 ∧ fr 2 = .pointer (some p) ∧ fr 4 = .pointer (some p4) ∧ fr 5 = .pointer (some p5) ∧ fr 6 = .int .i64 i ∧ (Bx w' w2.heap.size p5 28 ob) ∧ (OM w' w4.heap.size w'.heap.size 40 2 ob ((ms.take i).map (fun m => laidTo ps.length ps (fun f : Nat => gi ps (gi m f)) ps.length))) ∧ (w4.heap.size ≤ w'.heap.size) ∧ Below w2.heap.size w2 w') (ms.length)
    ⟨0, _, rfl, Nat.zero_le _, rfl, rfl, rfl, rfl, rfl, hx5, OM.nil _ _ _ _ _, Nat.le_refl _, hbB1⟩ ?_
  rintro kk fr w5 ⟨i, ob, rfl, hi, f1, f2, f4, f5, f6, hx5, ho, hge5, hbB1⟩
  have sw5 := hbB1.size
  have hv := hv_b1.below hbB1
  have hv2 := hv2_b1.below hbB1
  have hbx := cell_below hbx_b1 hbB1
  have hx4 := hx4_b1.below hbB1
  have sho := ho.sv
  refine know (t := 1) f1 ?_; refine know (t := 2) f2 ?_; refine know (t := 4) f4 ?_; refine know (t := 5) f5 ?_; refine know (t := 6) f6 ?_
  refine go ?_
  refine cond_dec rfl (fun hlt => ?_) (fun hge => ?_)
  · have hrow := (hs.row (j := (i : Int)) (by omega) (by omega)).1
    have sbs2 := hbB1.size
    have hv_b2 := hv
    have hv2_b2 := hv2
    have hbx_b2 := hbx
    have hx4_b2 := hx4
    have ho_b2 := ho
    have hx5_b2 := hx5
    have hbB2 := Below.refl w5.heap.size w5
    obtain ⟨u, hu_b2, hcu_b2⟩ := hv_b2.row (j := (i : Int)) (by omega) hlt
    have su := hu_b2.sv
    rw [hrow] at su
    have hu := hu_b2.below hbB2
    have hcu := cell_below hcu_b2 hbB2
    refine go ?_
    have szq6 := hbB2.size
    refine s_makeI (B := w5.heap.size) (wn rfl) rfl rfl rfl (by omega) (by omega) szq6 (fun rb w6 hr sohr hg6 _ => ?_)
    have hb6 := below_of_grownBy hg6
    have sw6 := hb6.size
    replace hv := hv.below hb6
    replace hv2 := hv2.below hb6
    replace hbx := cell_below hbx hb6
    replace hx4 := hx4.below hb6
    replace ho := ho.below hb6
    replace hx5 := hx5.below hb6
    replace hu := hu.below hb6
    replace hcu := cell_below hcu hb6
    replace hbB2 := hbB2.trans (hb6.mono hbB2.size)
    have el : ((ps.length : Int)).toNat = ps.length := by omega
    rw [el] at hr
    refine go ?_
    refine w_loop (fun kk fr w' => ∃ (q : Nat), kk = ps.length - q ∧ q ≤ ps.length ∧ fr 1 = v2 ∧ fr 2 = .pointer (some p) ∧ fr 4 = .pointer (some p4) ∧ fr 5 = .pointer (some p5) ∧ fr 6 = .int .i64 i ∧ fr 7 = rb ∧ fr 8 = .int .i64 q ∧ (OI w' w5.heap.size 2 rb (laidTo ps.length ps (fun f : Nat => gi ps (gi (gr ms i) f)) q)) ∧ Below w5.heap.size w5 w') (ps.length)
      ⟨0, rfl, Nat.zero_le _, rfl, rfl, rfl, rfl, rfl, rfl, rfl, hr, hbB2⟩ ?_
    rintro kk fr w7 ⟨q, rfl, hq, f1, f2, f4, f5, f6, f7, f8, hr, hbB2⟩
    have sw7 := hbB2.size
    have hv := hv_b2.below hbB2
    have hv2 := hv2_b2.below hbB2
    have hbx := cell_below hbx_b2 hbB2
    have hx4 := hx4_b2.below hbB2
    have ho := ho_b2.below hbB2
    have hx5 := hx5_b2.below hbB2
    have hu := hu_b2.below hbB2
    have hcu := cell_below hcu_b2 hbB2
    have shr := hr.sv
    refine know (t := 1) f1 ?_; refine know (t := 2) f2 ?_; refine know (t := 4) f4 ?_; refine know (t := 5) f5 ?_; refine know (t := 6) f6 ?_; refine know (t := 7) f7 ?_; refine know (t := 8) f8 ?_
    refine go ?_
    refine cond_dec rfl (fun hlt2 => ?_) (fun hge2 => ?_)
    · have hyy := hs.at (j := (i : Int)) (x := (q : Int)) (by omega) (by omega) (by omega)
      have hq1 := hpr q (by omega) (by omega)
      have hq2 := hpr _ hyy.1 hyy.2
      have hll2 := length_laidTo ps.length ps (fun f : Nat => gi ps (gi (gr ms i) f)) q
      refine go ?_
      refine region_hS (fun w' => Below w5.heap.size w5 w') mixed (fun w8 hb8 => ?_)
      have sw8 := hb8.size
      replace hv := hv.below hb8
      replace hv2 := hv2.below hb8
      replace hbx := cell_below hbx hb8
      replace hx4 := hx4.below hb8
      replace ho := ho.below hb8
      replace hx5 := hx5.below hb8
      replace hu := hu.below hb8
      replace hcu := cell_below hcu hb8
      replace hr := hr.below hb8
      replace hbB2 := hbB2.trans (hb8.mono hbB2.size)
      refine h_p 0 hbB2 ?_
      refine h_p 1 hbB2 ?_
      refine h_p 2 hbB2 ?_
      refine h_p 3 hbB2 ?_
      refine h_p 4 hbB2 ?_
      refine h_p 5 hbB2 ?_
      refine h_p 6 hbB2 ?_
      refine h_p 7 hbB2 ?_
      refine h_p 8 hbB2 ?_
      refine h_p 9 hbB2 ?_
      refine h_p 10 hbB2 ?_
      refine h_p 11 hbB2 ?_
      refine h_p 12 hbB2 ?_
      refine h_p 13 hbB2 ?_
      refine h_p 14 hbB2 ?_
      refine h_p 15 hbB2 ?_
      refine h_p 16 hbB2 ?_
      refine h_one 17 ?_
      have szq9 := hbB2.size
      refine s_storeI (wn rfl) rfl rfl hr (by omega) (by omega) (fun w9 hoN hgN => ?_)
      replace hbB2 := hbB2.trans (hr.below_of hgN szq9)
      have sw9 := hgN.size
      replace hr := hoN
      clear hoN
      replace hv := hv_b2.below hbB2
      replace hv2 := hv2_b2.below hbB2
      replace hbx := cell_below hbx_b2 hbB2
      replace hx4 := hx4_b2.below hbB2
      replace ho := ho_b2.below hbB2
      replace hx5 := hx5_b2.below hbB2
      replace hu := hu_b2.below hbB2
      replace hcu := cell_below hcu_b2 hbB2
      refine w_nil ?_
      refine h_on ⟨hbB2, ?_⟩
      refine h_nil ?_
      refine go ?_
      refine ⟨ps.length - (q + 1), by omega, q + 1, rfl, by omega, rfl, rfl, rfl, rfl, rfl, rfl, rfl, hr, hbB2⟩
    obtain rfl : q = ps.length := by omega
    replace hbB1 := hbB1.trans (hbB2.mono hbB1.size)
    have hc_hx5 := hx5.cell
    refine go ?_
    have szq10 := hbB1.size
    refine s_build1V (B := w2.heap.size) (wn rfl) rfl rfl hr.sv.one szq10 (fun tb w10 ht st hg10 _ => ?_)
    have hb10 := below_of_grownBy hg10
    have sw10 := hb10.size
    replace hv := hv.below hb10
    replace hv2 := hv2.below hb10
    replace hbx := cell_below hbx hb10
    replace hx4 := hx4.below hb10
    replace ho := ho.below hb10
    replace hx5 := hx5.below hb10
    replace hu := hu.below hb10
    replace hcu := cell_below hcu hb10
    replace hr := hr.below hb10
    replace hc_hx5 := cell_below hc_hx5 hb10
    replace hbB1 := hbB1.trans (hb10.mono hbB1.size)
    have szq11 := hbB1.size
    refine s_appendM (wn rfl) rfl rfl rfl ho ht.rd hr (by omega) (by decide) (by simp; omega) (by omega) (fun ob' w11 hoN so hgN => ?_)
    have sw11 := hgN.size
    replace hbB1 := hbB1.trans ((ho.below_of hgN (by omega)).mono (by omega))
    replace hx5 := hx5.kept hgN (by intro e; have := (ho.ownlt _ e).1; omega)
    replace ho := hoN
    clear hoN
    replace hv := hv_b1.below hbB1
    replace hv2 := hv2_b1.below hbB1
    replace hbx := cell_below hbx_b1 hbB1
    replace hx4 := hx4_b1.below hbB1
    refine go ?_
    refine s_storeFld (wn rfl) rfl rfl so.one hx5 (fun w12 hxN hgN => ?_)
    have sw12 := hgN.size
    replace hbB1 := hbB1.trans (hx5.below_of hgN (by omega))
    replace ho := (ho.kept hgN (by omega)).top
    replace hx5 := hxN
    clear hxN
    replace hv := hv_b1.below hbB1
    replace hv2 := hv2_b1.below hbB1
    replace hbx := cell_below hbx_b1 hbB1
    replace hx4 := hx4_b1.below hbB1
    refine go ?_
    refine ⟨ms.length - (i + 1), by omega, i + 1, ob', rfl, by omega, rfl, rfl, rfl, rfl, rfl, hx5, by rw [frm_take (by omega)]; exact ho, by omega, hbB1⟩
  obtain rfl : i = ms.length := by omega
  rw [List.take_length] at ho
  have hcx := hx5.cell
  have hx := ho
  refine go ?_
  have hbY := (hb.trans (hbB1.mono hb.size))
  refine go ?_
  refine s_storeBox (wn rfl) rfl rfl hx.sv.one hx4 (fun w13 hxz hgz => ?_)
  have hbz := hbY.trans (hx4.below_of hgz hbY.size)
  have hxN := hx.kept hgz (by omega)
  refine go ?_
  exact end_cell Try.results106 rfl hxz.cell ⟨ob, rfl, (hxN.mono (by omega)).top, hbz⟩

set_option maxHeartbeats 8000000 in
set_option maxRecDepth 100000 in
theorem l02Beside_any (v : Value) (v2 : Value) (ms : List (List Int)) (ks : List (List Int)) (A K : Nat) (w : World) (hv : RL w v ms) (hv2 : RL w v2 ks) (hs : Syst A ms) (hk : Syst K ks) (r1 : 1 ≤ ms.length) (k1 : 1 ≤ ks.length) (a1 : 1 ≤ A) (b1 : 1 ≤ K) (hAK : A * K ≤ 1000000) (r9 : ms.length ≤ 100) (k9 : ks.length ≤ 100) :
    Ret Try.prog 161 #[.agg #[v], .agg #[v2]] w fun r w' => ∃ x xss, r = .agg #[x] ∧ OM w' w.heap.size w'.heap.size 40 2 x xss ∧ xss.length = ms.length + ks.length ∧ Syst (A * K) xss ∧ Below w.heap.size w w' := by
  have shv := hv.sv
  have shv2 := hv2.sv
  have hb := Below.refl w.heap.size w
  refine enter2 89 Try.func161 rfl Try.ntmps161 rfl (fun fr => ?_)
  have em := hs.nf r1
  have ek := hk.nf k1
  have hA := Nat.le_mul_of_pos_right A (show 0 < K by omega)
  have hK := Nat.le_mul_of_pos_left K (show 0 < A by omega)
  have hcast : ((A * K : Nat) : Int) = (A : Int) * (K : Int) := Int.natCast_mul A K
  refine go ?_
  refine s_box (wn rfl) rfl rfl (agg_cells shv) (fun w1 hbx _ hp hg => ?_)
  have hb1 := below_of_grownBy hg
  have sw1 := hb1.size
  replace hv := hv.below hb1
  replace hv2 := hv2.below hb1
  replace hb := hb.trans (hb1.mono hb.size)
  clear hg hp hb1
  generalize (⟨w.heap.size, 0, none⟩ : Addr) = p at *
  refine go ?_
  refine s_box (wn rfl) rfl rfl (agg_cells shv2) (fun w2 hbx2 _ hp hg => ?_)
  have hb2 := below_of_grownBy hg
  have sw2 := hb2.size
  replace hv := hv.below hb2
  replace hv2 := hv2.below hb2
  replace hbx := cell_below hbx hb2
  replace hb := hb.trans (hb2.mono hb.size)
  clear hg hp hb2
  generalize (⟨w1.heap.size, 0, none⟩ : Addr) = p2 at *
  have sz0 := hb.size
  refine go ?_
  refine s_alloc (B := w.heap.size) (wn rfl) rfl (by first | exact Nat.le_refl _ | omega) (fun w3 p4 hx4 hg3 hpp4 => ?_)
  have hb3 := below_of_grownBy hg3
  have sw3 := hb3.size
  replace hv := hv.below hb3
  replace hv2 := hv2.below hb3
  replace hbx := cell_below hbx hb3
  replace hbx2 := cell_below hbx2 hb3
  replace hb := hb.trans (hb3.mono hb.size)
  have hlt_hx4 := hx4.lt
  have sz1 := hb.size
  refine go ?_
  refine region_h mixed (fun w4 hc4 => ?_)
  have swr4 := hc4.size
  refine h_p 0 hc4 ?_
  refine h_p 2 hc4 ?_
  refine h_one 1 ?_
  refine s_call1 (wn rfl) rfl rfl (l02Flags_any _ _ _ (hv.below hc4) r1) ?_
  rintro _ w5 ⟨rfl, hb5⟩
  have hc5 := hc4.trans (hb5.mono hc4.size)
  refine w_nil ?_
  refine h_on ⟨hc5, ?_⟩
  refine h_one 3 ?_
  refine s_call1 (wn rfl) rfl rfl (l02Flags_any _ _ _ (hv2.below hc5) k1) ?_
  rintro _ w6 ⟨rfl, hb6⟩
  have hc6 := hc5.trans (hb6.mono hc5.size)
  refine w_nil ?_
  refine h_on ⟨hc6, ?_⟩
  refine h_p 4 hc6 ?_
  refine h_p 5 hc6 ?_
  refine h_nil ?_
  have sw6 := hc6.size
  replace hv := hv.below hc6
  replace hv2 := hv2.below hc6
  replace hbx := cell_below hbx hc6
  replace hbx2 := cell_below hbx2 hc6
  replace hx4 := hx4.below hc6
  replace hb := hb.trans (hc6.mono hb.size)
  rw [em, ek]
  have sz2 := hb.size
  have sbs1 := hb.size
  have hv_b1 := hv
  have hv2_b1 := hv2
  have hbx_b1 := hbx
  have hbx2_b1 := hbx2
  have hx4_b1 := hx4
  have hbB1 := Below.refl w6.heap.size w6
  refine go ?_
  refine s_p (wn rfl) rfl y_bld0 ?_
  refine go ?_
  refine s_alloc (B := w6.heap.size) (wn rfl) rfl (by first | exact Nat.le_refl _ | omega) (fun w7 p5 hx5 hg7 hpp5 => ?_)
  have hb7 := below_of_grownBy hg7
  have sw7 := hb7.size
  replace hv := hv.below hb7
  replace hv2 := hv2.below hb7
  replace hbx := cell_below hbx hb7
  replace hbx2 := cell_below hbx2 hb7
  replace hx4 := hx4.below hb7
  replace hbB1 := hbB1.trans (hb7.mono hbB1.size)
  have hlt_hx5 := hx5.lt
  refine go ?_
  refine s_storeBox (wn rfl) rfl rfl rfl hx5 (fun w8 hxN hgN => ?_)
  replace hbB1 := hbB1.trans (hx5.below_of hgN hbB1.size)
  have sw8 := hgN.size
  replace hx5 := hxN
  replace hv := hv_b1.below hbB1
  replace hv2 := hv2_b1.below hbB1
  replace hbx := cell_below hbx_b1 hbB1
  replace hbx2 := cell_below hbx2_b1 hbB1
  replace hx4 := hx4_b1.below hbB1
  refine go ?_
  refine w_loop (fun kk fr w' => ∃ (i : Nat) (ob : Value) (xss : List (List Int)), kk = (ms.length + ks.length) - i ∧ i ≤ (ms.length + ks.length) ∧ fr 2 = .pointer (some p) ∧ fr 3 = .pointer (some p2) ∧ fr 4 = .pointer (some p4) ∧ fr 5 = .int .i64 A ∧ fr 6 = .int .i64 K ∧ fr 7 = .pointer (some p5) ∧ fr 8 = .int .i64 i ∧ (Bx w' w6.heap.size p5 28 ob) ∧ (OM w' w8.heap.size w'.heap.size 40 2 ob xss) ∧ (w8.heap.size ≤ w'.heap.size) ∧ (xss.length = i) ∧ (Syst (A * K) xss) ∧ Below w6.heap.size w6 w') ((ms.length + ks.length))
    ⟨0, _, [], rfl, Nat.zero_le _, rfl, rfl, rfl, rfl, rfl, rfl, rfl, hx5, OM.nil _ _ _ _ _, Nat.le_refl _, rfl, fun m h => by simp at h, hbB1⟩ ?_
  rintro kk fr w9 ⟨i, ob, xss, rfl, hi, f2, f3, f4, f5, f6, f7, f8, hx5, ho, hge5, hxl, hxs, hbB1⟩
  have sw9 := hbB1.size
  have hv := hv_b1.below hbB1
  have hv2 := hv2_b1.below hbB1
  have hbx := cell_below hbx_b1 hbB1
  have hbx2 := cell_below hbx2_b1 hbB1
  have hx4 := hx4_b1.below hbB1
  have sho := ho.sv
  refine know (t := 2) f2 ?_; refine know (t := 3) f3 ?_; refine know (t := 4) f4 ?_; refine know (t := 5) f5 ?_; refine know (t := 6) f6 ?_; refine know (t := 7) f7 ?_; refine know (t := 8) f8 ?_
  refine go ?_
  refine cond_dec rfl (fun hlt => ?_) (fun hge => ?_)
  · refine go ?_
    have sbs2 := hbB1.size
    have hv_b2 := hv
    have hv2_b2 := hv2
    have hbx_b2 := hbx
    have hbx2_b2 := hbx2
    have hx4_b2 := hx4
    have ho_b2 := ho
    have hx5_b2 := hx5
    have hbB2 := Below.refl w9.heap.size w9
    refine go ?_
    have szq10 := hbB2.size
    refine s_build0 (B := w9.heap.size) (wn rfl) rfl szq10 (fun rb w10 hr so hg10 _ => ?_)
    have hb10 := below_of_grownBy hg10
    have sw10 := hb10.size
    replace hv := hv.below hb10
    replace hv2 := hv2.below hb10
    replace hbx := cell_below hbx hb10
    replace hbx2 := cell_below hbx2 hb10
    replace hx4 := hx4.below hb10
    replace ho := ho.below hb10
    replace hx5 := hx5.below hb10
    replace hbB2 := hbB2.trans (hb10.mono hbB2.size)
    refine go ?_
    have hmul : (-9223372036854775808 : Int) ≤ (A : Int) * K ∧ (A : Int) * K ≤ 9223372036854775807 := by omega
    refine go ?_
    refine w_loop (fun kk fr w' => ∃ (q : Nat) (rb : Value) (L : List Int), kk = A * K - q ∧ q ≤ A * K ∧ fr 2 = .pointer (some p) ∧ fr 3 = .pointer (some p2) ∧ fr 4 = .pointer (some p4) ∧ fr 5 = .int .i64 A ∧ fr 6 = .int .i64 K ∧ fr 7 = .pointer (some p5) ∧ fr 8 = .int .i64 i ∧ fr 9 = rb ∧ fr 10 = .int .i64 q ∧ (OI w' w9.heap.size 2 rb L) ∧ (L.length = q) ∧ (∀ x ∈ L, 0 ≤ x ∧ x < (A * K : Nat)) ∧ Below w9.heap.size w9 w') (A * K)
      ⟨0, rb, [], rfl, Nat.zero_le _, rfl, rfl, rfl, rfl, rfl, rfl, rfl, rfl, rfl, hr, rfl, fun x h => by simp at h, hbB2⟩ ?_
    rintro kk fr w11 ⟨q, rb, L, rfl, hq, f2, f3, f4, f5, f6, f7, f8, f9, f10, hr, hLl, hLr, hbB2⟩
    have sw11 := hbB2.size
    have hv := hv_b2.below hbB2
    have hv2 := hv2_b2.below hbB2
    have hbx := cell_below hbx_b2 hbB2
    have hbx2 := cell_below hbx2_b2 hbB2
    have hx4 := hx4_b2.below hbB2
    have ho := ho_b2.below hbB2
    have hx5 := hx5_b2.below hbB2
    have shr := hr.sv
    refine know (t := 2) f2 ?_; refine know (t := 3) f3 ?_; refine know (t := 4) f4 ?_; refine know (t := 5) f5 ?_; refine know (t := 6) f6 ?_; refine know (t := 7) f7 ?_; refine know (t := 8) f8 ?_; refine know (t := 9) f9 ?_; refine know (t := 10) f10 ?_
    refine go ?_
    refine s_p (wn rfl) rfl (y_mul rfl rfl (by omega)) ?_
    refine go ?_
    refine cond_dec rfl (fun hlt2 => ?_) (fun hge2 => ?_)
    · have hqK : (q : Int) < (A : Int) * K := by omega
      have hq1 : 0 ≤ (q : Int) / K := Int.ediv_nonneg (by omega) (by omega)
      have hq2 : (q : Int) / K < A := Int.ediv_lt_of_lt_mul (by omega) hqK
      have hq3 : 0 ≤ (q : Int) % K := Int.emod_nonneg _ (by omega)
      have hq4 : (q : Int) % K < K := Int.emod_lt_of_pos _ (by omega)
      have hprod : ∀ x : Int, 0 ≤ x → x < A → 0 ≤ x * K ∧ x * K + K ≤ (A : Int) * K := fun x h0 h1 => by
        refine ⟨Int.mul_nonneg h0 (by omega), ?_⟩
        have := Int.mul_le_mul_of_nonneg_right (show x + 1 ≤ A by omega) (show (0 : Int) ≤ K by omega)
        rw [Int.add_mul, Int.one_mul] at this; exact this
      by_cases him : (i : Int) < ms.length
      · obtain ⟨u, hu_b2, hcu_b2⟩ := hv_b2.row (j := (i : Int)) (by omega) him
        have hrow := hs.row (j := (i : Int)) (by omega) him
        have hyy := hs.at (j := (i : Int)) (x := (q : Int) / K) (by omega) him ⟨hq1, hq2⟩
        have hpp := hprod _ hyy.1 hyy.2
        have su := hu_b2.sv
        have hu := hu_b2.below hbB2
        have hcu := cell_below hcu_b2 hbB2
        refine go ?_
        refine region_hS (fun w' => Below w9.heap.size w9 w') mixed (fun w12 hb12 => ?_)
        have sw12 := hb12.size
        replace hv := hv.below hb12
        replace hv2 := hv2.below hb12
        replace hbx := cell_below hbx hb12
        replace hbx2 := cell_below hbx2 hb12
        replace hx4 := hx4.below hb12
        replace ho := ho.below hb12
        replace hx5 := hx5.below hb12
        replace hr := hr.below hb12
        replace hu := hu.below hb12
        replace hcu := cell_below hcu hb12
        replace hbB2 := hbB2.trans (hb12.mono hbB2.size)
        refine h_p 0 hbB2 ?_
        refine h_p 1 hbB2 ?_
        refine h_p 2 hbB2 ?_
        refine h_p 3 hbB2 ?_
        refine h_p 4 hbB2 ?_
        refine h_p 5 hbB2 ?_
        refine h_p 6 hbB2 ?_
        refine h_p 7 hbB2 ?_
        refine h_p 8 hbB2 ?_
        refine h_p 9 hbB2 ?_
        refine h_p 10 hbB2 ?_
        refine h_p 11 hbB2 ?_
        refine h_p 12 hbB2 ?_ (hrun := fun w' hb => y_mul rfl rfl (by omega))
        refine h_p 13 hbB2 ?_
        refine h_p 14 hbB2 ?_
        refine h_p 15 hbB2 ?_
        refine h_p 16 hbB2 ?_
        refine h_one 17 ?_
        have szq13 := hbB2.size
        refine s_build1 (B := w9.heap.size) (wn rfl) rfl rfl szq13 (fun tb w13 ht st hg13 _ => ?_)
        have hb13 := below_of_grownBy hg13
        have sw13 := hb13.size
        replace hv := hv.below hb13
        replace hv2 := hv2.below hb13
        replace hbx := cell_below hbx hb13
        replace hbx2 := cell_below hbx2 hb13
        replace hx4 := hx4.below hb13
        replace ho := ho.below hb13
        replace hx5 := hx5.below hb13
        replace hr := hr.below hb13
        replace hu := hu.below hb13
        replace hcu := cell_below hcu hb13
        replace hbB2 := hbB2.trans (hb13.mono hbB2.size)
        have szq14 := hbB2.size
        refine w_nil ?_
        refine h_on ⟨hbB2, ?_⟩
        refine h_one 18 ?_
        refine s_appendI (wn rfl) rfl rfl rfl hr ht.il (by simp; omega) szq14 (fun rb' w14 hoN so hgN _ => ?_)
        replace hbB2 := hbB2.trans (hr.below_of hgN szq14)
        have sw14 := hgN.size
        replace hr := hoN
        clear hoN
        replace hv := hv_b2.below hbB2
        replace hv2 := hv2_b2.below hbB2
        replace hbx := cell_below hbx_b2 hbB2
        replace hbx2 := cell_below hbx2_b2 hbB2
        replace hx4 := hx4_b2.below hbB2
        replace ho := ho_b2.below hbB2
        replace hx5 := hx5_b2.below hbB2
        replace hu := hu_b2.below hbB2
        replace hcu := cell_below hcu_b2 hbB2
        refine w_nil ?_
        refine h_on ⟨hbB2, ?_⟩
        refine h_p 19 hbB2 ?_
        refine h_nil ?_
        refine go ?_
        refine ⟨A * K - (q + 1), by omega, q + 1, rb', _, rfl, by omega, rfl, rfl, rfl, rfl, rfl, rfl, rfl, rfl, rfl, hr, by simp [hLl], fun x hx => by
              rcases List.mem_append.1 hx with hx | hx
              · exact hLr x hx
              · simp at hx; subst hx; omega, hbB2⟩
      obtain ⟨u, hu_b2, hcu_b2⟩ := hv2_b2.row (j := (i : Int) - ms.length) (by omega) (by omega)
      have hrow := hk.row (j := (i : Int) - ms.length) (by omega) (by omega)
      have hyy := hk.at (j := (i : Int) - ms.length) (x := (q : Int) % K) (by omega) (by omega) ⟨hq3, hq4⟩
      have hpp := hprod _ hq1 hq2
      have su := hu_b2.sv
      have hu := hu_b2.below hbB2
      have hcu := cell_below hcu_b2 hbB2
      refine go ?_
      refine region_hS (fun w' => Below w9.heap.size w9 w') mixed (fun w15 hb15 => ?_)
      have sw15 := hb15.size
      replace hv := hv.below hb15
      replace hv2 := hv2.below hb15
      replace hbx := cell_below hbx hb15
      replace hbx2 := cell_below hbx2 hb15
      replace hx4 := hx4.below hb15
      replace ho := ho.below hb15
      replace hx5 := hx5.below hb15
      replace hr := hr.below hb15
      replace hu := hu.below hb15
      replace hcu := cell_below hcu hb15
      replace hbB2 := hbB2.trans (hb15.mono hbB2.size)
      refine h_p 0 hbB2 ?_
      refine h_p 1 hbB2 ?_
      refine h_p 2 hbB2 ?_
      refine h_p 3 hbB2 ?_
      refine h_p 4 hbB2 ?_
      refine h_p 5 hbB2 ?_ (hrun := fun w' hb => y_mul rfl rfl (by omega))
      refine h_p 6 hbB2 ?_
      refine h_p 7 hbB2 ?_
      refine h_p 8 hbB2 ?_
      refine h_p 9 hbB2 ?_
      refine h_p 10 hbB2 ?_
      refine h_p 11 hbB2 ?_
      refine h_p 12 hbB2 ?_
      refine h_p 13 hbB2 ?_
      refine h_p 14 hbB2 ?_
      refine h_p 15 hbB2 ?_
      refine h_p 16 hbB2 ?_
      refine h_p 17 hbB2 ?_
      refine h_p 18 hbB2 ?_
      refine h_p 19 hbB2 ?_
      refine h_p 20 hbB2 ?_
      refine h_one 21 ?_
      have szq16 := hbB2.size
      refine s_build1 (B := w9.heap.size) (wn rfl) rfl rfl szq16 (fun tb w16 ht st hg16 _ => ?_)
      have hb16 := below_of_grownBy hg16
      have sw16 := hb16.size
      replace hv := hv.below hb16
      replace hv2 := hv2.below hb16
      replace hbx := cell_below hbx hb16
      replace hbx2 := cell_below hbx2 hb16
      replace hx4 := hx4.below hb16
      replace ho := ho.below hb16
      replace hx5 := hx5.below hb16
      replace hr := hr.below hb16
      replace hu := hu.below hb16
      replace hcu := cell_below hcu hb16
      replace hbB2 := hbB2.trans (hb16.mono hbB2.size)
      have szq17 := hbB2.size
      refine w_nil ?_
      refine h_on ⟨hbB2, ?_⟩
      refine h_one 22 ?_
      refine s_appendI (wn rfl) rfl rfl rfl hr ht.il (by simp; omega) szq17 (fun rb' w17 hoN so hgN _ => ?_)
      replace hbB2 := hbB2.trans (hr.below_of hgN szq17)
      have sw17 := hgN.size
      replace hr := hoN
      clear hoN
      replace hv := hv_b2.below hbB2
      replace hv2 := hv2_b2.below hbB2
      replace hbx := cell_below hbx_b2 hbB2
      replace hbx2 := cell_below hbx2_b2 hbB2
      replace hx4 := hx4_b2.below hbB2
      replace ho := ho_b2.below hbB2
      replace hx5 := hx5_b2.below hbB2
      replace hu := hu_b2.below hbB2
      replace hcu := cell_below hcu_b2 hbB2
      refine w_nil ?_
      refine h_on ⟨hbB2, ?_⟩
      refine h_p 23 hbB2 ?_
      refine h_nil ?_
      refine go ?_
      refine ⟨A * K - (q + 1), by omega, q + 1, rb', _, rfl, by omega, rfl, rfl, rfl, rfl, rfl, rfl, rfl, rfl, rfl, hr, by simp [hLl], fun x hx => by
            rcases List.mem_append.1 hx with hx | hx
            · exact hLr x hx
            · simp at hx; subst hx; omega, hbB2⟩
    obtain rfl : q = A * K := by omega
    replace hbB1 := hbB1.trans (hbB2.mono hbB1.size)
    have hc_hx5 := hx5.cell
    refine go ?_
    have szq18 := hbB1.size
    refine s_build1V (B := w6.heap.size) (wn rfl) rfl rfl hr.sv.one szq18 (fun tb w18 ht st hg18 _ => ?_)
    have hb18 := below_of_grownBy hg18
    have sw18 := hb18.size
    replace hv := hv.below hb18
    replace hv2 := hv2.below hb18
    replace hbx := cell_below hbx hb18
    replace hbx2 := cell_below hbx2 hb18
    replace hx4 := hx4.below hb18
    replace ho := ho.below hb18
    replace hx5 := hx5.below hb18
    replace hr := hr.below hb18
    replace hc_hx5 := cell_below hc_hx5 hb18
    replace hbB1 := hbB1.trans (hb18.mono hbB1.size)
    have szq19 := hbB1.size
    refine s_appendM (wn rfl) rfl rfl rfl ho ht.rd hr (by omega) (by decide) (by omega) (by omega) (fun ob' w19 hoN so hgN => ?_)
    have sw19 := hgN.size
    replace hbB1 := hbB1.trans ((ho.below_of hgN (by omega)).mono (by omega))
    replace hx5 := hx5.kept hgN (by intro e; have := (ho.ownlt _ e).1; omega)
    replace ho := hoN
    clear hoN
    replace hv := hv_b1.below hbB1
    replace hv2 := hv2_b1.below hbB1
    replace hbx := cell_below hbx_b1 hbB1
    replace hbx2 := cell_below hbx2_b1 hbB1
    replace hx4 := hx4_b1.below hbB1
    refine go ?_
    refine s_storeFld (wn rfl) rfl rfl so.one hx5 (fun w20 hxN hgN => ?_)
    have sw20 := hgN.size
    replace hbB1 := hbB1.trans (hx5.below_of hgN (by omega))
    replace ho := (ho.kept hgN (by omega)).top
    replace hx5 := hxN
    clear hxN
    replace hv := hv_b1.below hbB1
    replace hv2 := hv2_b1.below hbB1
    replace hbx := cell_below hbx_b1 hbB1
    replace hbx2 := cell_below hbx2_b1 hbB1
    replace hx4 := hx4_b1.below hbB1
    refine go ?_
    refine ⟨(ms.length + ks.length) - (i + 1), by omega, i + 1, ob', _, rfl, by omega, rfl, rfl, rfl, rfl, rfl, rfl, rfl, hx5, ho, by omega, by simp [hxl], fun m hm => by
          rcases List.mem_append.1 hm with hm | hm
          · exact hxs m hm
          · simp at hm; subst hm; exact ⟨hLl, hLr⟩, hbB1⟩
  obtain rfl : i = ms.length + ks.length := by omega
  have hcx := hx5.cell
  have hx := ho
  refine go ?_
  have hbY := (hb.trans (hbB1.mono hb.size))
  refine go ?_
  refine s_storeBox (wn rfl) rfl rfl hx.sv.one hx4 (fun w21 hxz hgz => ?_)
  have hbz := hbY.trans (hx4.below_of hgz hbY.size)
  have hxN := hx.kept hgz (by omega)
  refine go ?_
  exact end_cell Try.results161 rfl hxz.cell ⟨ob, xss, rfl, (hxN.mono (by omega)).top, hxl, hxs, hbz⟩

end Go.Proofs.Ytlodnhflfijomaa
