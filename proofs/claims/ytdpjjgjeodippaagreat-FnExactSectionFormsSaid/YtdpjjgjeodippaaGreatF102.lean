/- Contracts: the forms of sections (the reference). -/
import Derived.Test.YtdpjjgjeodippaaGreatF101
import Derived.Test.YtdpjjgjeodippaaGreatF32
namespace Go.Mem
open Go.RowKit
set_option linter.unusedVariables false
section
variable {P : Program} {n : Nat} {f : Fm} {w : World} {dst : Option Tmp} {ty : TypeId} {pos : String} {after : Array Edge} {g : Option (Nat × Bool)}
theorem y_cutR2E {x lo hi : Operand} {t e : TypeId} {z : Value} {bytes : Nat} [ht : SliceTy P t e] [he : CellTy P e z bytes] {v : Value} {xss : List (List Int)} {kl kh : IntKind} {l r : Int}
    (hx : lk n f x = some v) (hlo : lk n f lo = some (.int kl l)) (hhi : lk n f hi = some (.int kh r)) (h : RL w v xss) (h0 : 0 ≤ l) (hl : l ≤ r) (hr : r ≤ xss.length) :
    Yld P (evo n f) ⟨dst, .slice t x (some lo) (some hi) none, ty, pos, after, g⟩ w (cut v l.toNat r.toNat) := by
  obtain ⟨vs, h1, h2, _⟩ := h.out
  exact y_cut hx hlo hhi h1 h0 hl (by omega)
end
theorem OM.boxE {w w' : World} {B E B2 : Nat} {T U T2 : TypeId} {v x : Value} {xss : List (List Int)} {p : Addr} (h : OM w B E T U v xss) (k : Bx w B2 p T2 x) (h1 : T ≠ T2) (h2 : U ≠ T2) (hg : w.grownBy w' (some p.block)) : OM w' B E T U v xss := by
  have ap : ∀ {B3 : Nat} {T3 : TypeId} {a : Value} {ws : List Value}, Own w B3 T3 a ws → T3 ≠ T2 → a.ownBlock ≠ some p.block := by
    intro B3 T3 a ws ha hT
    have h1 := k.row
    rcases ha with ⟨rfl, rfl⟩ | ⟨g, off, cap, cur, rfl, hb, hg, _⟩
    · simp [Value.ownBlock]
    · simp only [Value.ownBlock, ne_eq, Option.some.injEq]
      intro e
      rw [← e, hg] at h1
      simp only [Option.some.injEq, Obj.cells.injEq] at h1
      exact hT h1.2.1
  obtain ⟨vs, k1, k2⟩ := h.rws
  exact Rws.om ⟨k2.one, k2.len, fun i a zs ha hz => (k2.row i a zs ha hz).kept hg (.inr (ap (k2.row i a zs ha hz).own h2)), k2.lt, k2.apart⟩ (k1.kept hg (.inr (ap k1 h1)))

theorem insM_at (L : List (List (List Int))) (x : List (List Int)) (q : Nat) (hl : q ≤ L.length) (h1 : ∀ j, j < q → befM (L.getD j []) x = true) (h2 : (decide (q < L.length) && befM (L.getD q []) x) = false) :
    insF befM L x = if (decide (q < L.length) && decide (L.getD q [] = x)) = true then L else L.take q ++ x :: L.drop q := by
  rw [insF_at L x q hl (fun i hi hq => by have := h1 i hq; simpa [List.getD, hi] using this) (fun hi => by simpa [List.getD, hi] using h2)]
  by_cases hq : q < L.length
  · by_cases e : L[q] = x
    · rw [if_pos ⟨hq, e⟩, if_pos (by simp [List.getD, hq, e])]
    · rw [if_neg (fun ⟨_, h⟩ => e h), if_neg (by simp [List.getD, hq, e])]
  · rw [if_neg (fun ⟨h, _⟩ => hq h), if_neg (by simp [hq])]
end Go.Mem
namespace Go.Proofs.YtdpjjgjeodippaaGreat
open Go.Mem Go.RowKit
set_option linter.unusedVariables false
set_option linter.unusedSimpArgs false

set_option maxHeartbeats 8000000 in
set_option maxRecDepth 100000 in
theorem l04Before_any (v v2 : Value) (xss yss : List (List Int)) (w : World) (hv : RL w v xss) (hv2 : RL w v2 yss) (r1 : 1 ≤ xss.length) (r2 : 1 ≤ yss.length) :
    Ret Tryz.prog 33 #[.agg #[v], .agg #[v2]] w fun r w' => r = .bool (befM xss yss) ∧ Below w.heap.size w w' := by
  have shv := hv.sv
  have shv2 := hv2.sv
  refine enter2 20 Tryz.func33 rfl Tryz.ntmps33 rfl (fun fr => ?_)
  refine go ?_
  refine s_box (wn rfl) rfl rfl (agg_cells shv) (fun w1 hx _ hp hg => ?_)
  have b1 := below_of_grownBy hg
  replace hv := hv.below b1
  replace hv2 := hv2.below b1
  clear hg hp
  generalize (⟨w.heap.size, 0, none⟩ : Addr) = p at *
  refine go ?_
  refine s_box (wn rfl) rfl rfl (agg_cells shv2) (fun w2 hx2 _ hp hg => ?_)
  have b2 := below_of_grownBy hg
  replace hv := hv.below b2
  replace hv2 := hv2.below b2
  replace hx := cell_below hx b2
  have hb := b1.trans (b2.mono b1.size)
  clear hg hp
  generalize (⟨w1.heap.size, 0, none⟩ : Addr) = p2 at *
  refine go ?_
  refine region_hS (fun w' => w'.cell? p = some v ∧ w'.cell? p2 = some v2) mixed (fun w3 cr => ?_)
  replace hv := hv.below cr
  replace hv2 := hv2.below cr
  replace hx := cell_below hx cr
  replace hx2 := cell_below hx2 cr
  replace hb := hb.trans (cr.mono hb.size)
  refine h_p 0 ⟨hx, hx2⟩ ?_ (hrun := fun w' h => by obtain ⟨h1, h2⟩ := h; exact yl)
  refine h_p 2 ⟨hx, hx2⟩ ?_ (hrun := fun w' h => by obtain ⟨h1, h2⟩ := h; exact yl)
  refine h_one 1 ?_
  refine s_call1 (wn rfl) rfl rfl (l02Flags_any _ _ _ hv r1) ?_
  rintro _ w4 ⟨rfl, hb4⟩
  replace hv2 := hv2.below hb4
  replace hv := hv.below hb4
  replace hx := cell_below hx hb4
  replace hx2 := cell_below hx2 hb4
  replace hb := hb.trans (hb4.mono hb.size)
  refine w_nil ?_
  refine h_on ⟨⟨hx, hx2⟩, ?_⟩
  refine h_one 3 ?_
  refine s_call1 (wn rfl) rfl rfl (l02Flags_any _ _ _ hv2 r2) ?_
  rintro _ w5 ⟨rfl, hb5⟩
  replace hv2 := hv2.below hb5
  replace hv := hv.below hb5
  replace hx := cell_below hx hb5
  replace hx2 := cell_below hx2 hb5
  replace hb := hb.trans (hb5.mono hb.size)
  refine w_nil ?_
  refine h_on ⟨⟨hx, hx2⟩, ?_⟩
  refine h_p 4 ⟨hx, hx2⟩ ?_ (hrun := fun w' h => by obtain ⟨h1, h2⟩ := h; exact yl)
  refine h_nil ?_
  refine go ?_
  refine cond_dec rfl (fun hne => ?_) (fun hne => ?_)
  · refine go ?_
    refine region_hS (fun w' => w'.cell? p = some v ∧ w'.cell? p2 = some v2) mixed (fun w3 cr => ?_)
    replace hv := hv.below cr
    replace hv2 := hv2.below cr
    replace hx := cell_below hx cr
    replace hx2 := cell_below hx2 cr
    replace hb := hb.trans (cr.mono hb.size)
    refine h_p 0 ⟨hx, hx2⟩ ?_ (hrun := fun w' h => by obtain ⟨h1, h2⟩ := h; exact yl)
    refine h_p 2 ⟨hx, hx2⟩ ?_ (hrun := fun w' h => by obtain ⟨h1, h2⟩ := h; exact yl)
    refine h_one 1 ?_
    refine s_call1 (wn rfl) rfl rfl (l02Flags_any _ _ _ hv r1) ?_
    rintro _ w4 ⟨rfl, hb4⟩
    replace hv2 := hv2.below hb4
    replace hv := hv.below hb4
    replace hx := cell_below hx hb4
    replace hx2 := cell_below hx2 hb4
    replace hb := hb.trans (hb4.mono hb.size)
    refine w_nil ?_
    refine h_on ⟨⟨hx, hx2⟩, ?_⟩
    refine h_one 3 ?_
    refine s_call1 (wn rfl) rfl rfl (l02Flags_any _ _ _ hv2 r2) ?_
    rintro _ w5 ⟨rfl, hb5⟩
    replace hv2 := hv2.below hb5
    replace hv := hv.below hb5
    replace hx := cell_below hx hb5
    replace hx2 := cell_below hx2 hb5
    replace hb := hb.trans (hb5.mono hb.size)
    refine w_nil ?_
    refine h_on ⟨⟨hx, hx2⟩, ?_⟩
    refine h_p 4 ⟨hx, hx2⟩ ?_ (hrun := fun w' h => by obtain ⟨h1, h2⟩ := h; exact yl)
    refine h_p 5 ⟨hx, hx2⟩ ?_ (hrun := fun w' h => by obtain ⟨h1, h2⟩ := h; exact yl)
    refine h_nil ?_
    refine go ?_
    exact end_one Tryz.results33 rfl ⟨by unfold befM; rw [if_neg (by omega)]; congr 1; rw [decide_eq_decide]; omega, hb⟩
  · have en : nf xss = nf yss := by omega
    refine go ?_
    refine s_call2 (wn rfl) rfl rfl rfl (l01Less2_any _ _ _ _ _ hv hv2) ?_
    rintro _ w3 ⟨rfl, hb3⟩
    have hbz := hb.trans (hb3.mono hb.size)
    refine go ?_
    exact end_one Tryz.results33 rfl ⟨by unfold befM; rw [if_pos en], hbz⟩

set_option maxHeartbeats 32000000 in
set_option maxRecDepth 100000 in
theorem l04Forms_any (v : Value) (ms : List (List Int)) (i k : Int) (w : World) (hv : RL w v ms) (hm : IsMan ms) (hi : 0 ≤ i ∧ i ≤ k ∧ k < ms.length) :
    Ret Tryz.prog 15 #[.agg #[v], .int .i64 i, .int .i64 k] w fun r w' => ∃ x y us, r = .tuple #[x, y] ∧ Own w' w.heap.size 29 x us ∧ Els w' 38 2 us (secF (nf ms) (secA ms i k)) ∧
      OI w' w.heap.size 2 y (secK (nf ms) (secA ms i k)) ∧ Below w.heap.size w w' := by
  have shv := hv.sv
  have r5 := hm.m0.r5
  have r1 := hm.m0.r1
  have f4 := hm.m0.f400
  have f2 := hm.m0.f2
  have hlk : Like (nf ms) (secA ms i k) := (hm.like.take (by omega)).drop (by simp; omega)
  have hA5 := hlk.r5
  have hA1 := hlk.r1
  have hsym : Sym (nf ms) (secA ms i k) := hlk.sym (fun m h => h)
  have hL := labs_all hsym (by omega)
  have hc0 := hL.c0
  have hll := hL.len
  have hgre := gre_labs hsym (by omega)
  have hmem := hL.mem
  have hm1 := labc_posL hL (by omega)
  have hman := secO_ok hlk (by omega)
  have hso := secO_len (n := nf ms) (A := secA ms i k)
  have hFl := secF_le (n := nf ms) (A := secA ms i k)
  refine enter3 117 Tryz.func15 rfl Tryz.ntmps15 rfl (fun fr => ?_)
  refine go ?_
  refine s_box (wn rfl) rfl rfl (agg_cells shv) (fun w1 hbx _ hp hg => ?_)
  have hb := below_of_grownBy hg
  replace hv := hv.below hb
  clear hg hp
  generalize (⟨w.heap.size, 0, none⟩ : Addr) = p at *
  refine go ?_
  refine region_hS (fun w' => w'.cell? p = some v ∧ RL w' v ms) mixed (fun w2 cr => ?_)
  replace hv := hv.below cr
  replace hbx := cell_below hbx cr
  replace hb := hb.trans (cr.mono hb.size)
  refine h_p 0 ⟨hbx, hv⟩ ?_ (hrun := fun w' h => by obtain ⟨h1, h2⟩ := h; exact yl)
  refine h_p 2 ⟨hbx, hv⟩ ?_ (hrun := fun w' h => by obtain ⟨h1, h2⟩ := h; exact yl)
  refine h_p 3 ⟨hbx, hv⟩ ?_ (hrun := fun w' h => by obtain ⟨h1, h2⟩ := h; exact yl)
  refine h_p 4 ⟨hbx, hv⟩ ?_ (hrun := fun w' h => by obtain ⟨h1, h2⟩ := h; exact yl)
  refine h_p 5 ⟨hbx, hv⟩ ?_ (hrun := fun w' h => by obtain ⟨h1, h2⟩ := h; exact yl)
  refine h_p 6 ⟨hbx, hv⟩ ?_ (hrun := fun w' h => by obtain ⟨h1, h2⟩ := h; exact yl)
  refine h_p 7 ⟨hbx, hv⟩ ?_ (hrun := fun w' h => y_cutR2E rfl rfl rfl h.2 (by omega) (by omega) (by omega))
  refine h_one 1 ?_
  refine s_call1 (wn rfl) rfl rfl (l02Flags_any _ _ _ hv r1) ?_
  rintro _ w3 ⟨rfl, hb3⟩
  replace hv := hv.below hb3
  replace hbx := cell_below hbx hb3
  replace hb := hb.trans (hb3.mono hb.size)
  refine w_nil ?_
  refine h_on ⟨⟨hbx, hv⟩, ?_⟩
  have hrl := hv.cut (l := i.toNat) (r := (k + 1).toNat) (by omega) (by omega)
  have hAe : (ms.take (k + 1).toNat).drop i.toNat = secA ms i k := rfl
  rw [hAe] at hrl
  refine h_one 8 ?_
  refine s_call2 (wn rfl) rfl rfl rfl (l01Orbits_any _ _ _ _ hrl hsym (by omega) (by omega)) ?_
  rintro lb w4 ⟨hx, hb4⟩
  replace hv := hv.below hb4
  replace hbx := cell_below hbx hb4
  have hbA := hb.trans (hb4.mono hb.size)
  refine w_nil ?_
  refine h_on ⟨⟨hbx, hv⟩, ?_⟩
  refine h_p 9 ⟨hbx, hv⟩ ?_ (hrun := fun w' h => by obtain ⟨h1, h2⟩ := h; exact yl)
  refine h_nil ?_
  clear hrl hb hb3 cr hb4
  have zA := hbA.size
  have hplt := World.block_lt_of_cell? _ _ hbx
  generalize hAg : secA ms i k = A at *
  obtain ⟨m, hmm⟩ : ∃ m : Nat, labc (nf ms) A = m := ⟨_, (Int.toNat_of_nonneg hc0.1).symm⟩
  refine go ?_
  refine s_buildE (B := w4.heap.size) [] (wn rfl) rfl rfl (by decide) rfl (by simp) (Nat.le_refl _) (fun ra w5 hra hg5 hka => ?_)
  have hb5 := below_of_grownBy hg5
  refine go ?_
  refine s_buildE (B := w4.heap.size) [] (wn rfl) rfl rfl (by decide) rfl (by simp) hb5.size (fun rb w6 hrb hg6 hkb => ?_)
  have hb6 := hb5.trans ((below_of_grownBy hg6).mono hb5.size)
  have hra6 := hra.below (below_of_grownBy hg6)
  have hap : ∀ g, ra.ownBlock = some g → rb.ownBlock ≠ some g := fun g h1 h2 => by
    rw [hka] at h1; rw [hkb] at h2
    have h3 := Option.some.inj h1
    have h4 := Option.some.inj h2
    have h5 := (hra.lt _ hka).2
    omega
  clear hra
  refine go ?_
  refine w_loop (fun kk fr w' => ∃ (o : Nat) (ra rb : Value) (va vb : List Value), kk = m - o ∧ o ≤ m ∧ fr 1 = .int .i64 i ∧ fr 2 = .int .i64 k ∧ fr 3 = .pointer (some p) ∧ fr 8 = lb ∧ fr 9 = ra ∧ fr 10 = rb ∧ fr 11 = .int .i64 o ∧
      Own w' w4.heap.size 29 ra va ∧ Els w' 38 2 va ((secO (nf ms) A).take o) ∧ Own w' w4.heap.size 29 rb vb ∧ Els w' 38 2 vb (fmsM ((secO (nf ms) A).take o)) ∧
      (∀ g, ra.ownBlock = some g → rb.ownBlock ≠ some g) ∧ Below w4.heap.size w4 w') m
    ⟨0, _, _, [], [], rfl, Nat.zero_le _, rfl, rfl, rfl, rfl, rfl, rfl, rfl, hra6, Els.nil _ _ _, hrb, Els.nil _ _ _, hap, hb6⟩ ?_
  clear hra6 hrb hap hka hkb hg5 hg6
  rintro kk fr u1 ⟨o, ra, rb, va, vb, rfl, ho, f1, f2', f3, f8, f9, f10, f11, hra, hEa, hrb, hEb, hap, hc⟩
  have zc := hc.size
  have hv1 := hv.below hc
  have hx1 := hx.below hc
  have hbx1 := cell_below hbx hc
  have sx1 := hx1.sv
  have hal := hEa.len
  have hbl := hEb.len
  rw [List.length_take] at hal
  refine know (t := 1) f1 ?_; refine know (t := 2) f2' ?_; refine know (t := 3) f3 ?_; refine know (t := 8) f8 ?_; refine know (t := 9) f9 ?_; refine know (t := 10) f10 ?_; refine know (t := 11) f11 ?_
  refine go ?_
  refine s_call1 (wn rfl) rfl rfl (l02Greatest_any _ _ _ hx1.il (fun x h => by have := hmem x h; omega)) ?_
  rintro _ _ ⟨rfl, rfl⟩
  rw [hgre, hmm]
  refine go ?_
  refine cond_dec rfl (fun hlt => ?_) (fun hge => ?_)
  · have hom : o < (labc (nf ms) A).toNat := by omega
    obtain ⟨i0, i1⟩ := idx_rng hL hom
    have hfm := frm_man hlk ⟨i0, i1⟩
    have hxm : IsMan (lst (frm (nf ms) A (idxOf (labs (nf ms) A) o))) := hman _ (by rw [← secO_at hom]; simp [List.getD, hso, hom])
    have hall : ∀ j, j < vb.length → 1 ≤ ((fmsM ((secO (nf ms) A).take o)).getD j []).length := fun j hj => by
      have h2 : (fmsM ((secO (nf ms) A).take o)).getD j [] ∈ fmsM ((secO (nf ms) A).take o) := by simp [List.getD, show j < (fmsM ((secO (nf ms) A).take o)).length by omega]
      exact (hman _ (List.mem_of_mem_take (((fmsM_ok _).2 _).1 h2))).m0.r1
    have hxr1 := hxm.m0.r1
    have e1 := secO_take hom
    generalize hxe : lst (frm (nf ms) A (idxOf (labs (nf ms) A) o)) = xx at *
    have hins := fmsM_snoc ((secO (nf ms) A).take o) xx
    generalize hFe : fmsM ((secO (nf ms) A).take o) = F at *
    have srb := hrb.sv
    rw [hbl] at srb
    have scb := srb.le
    have hFm : F.length ≤ m := by
      rw [← hFe]
      have := List.Nodup.length_le_of_subset (fmsM_nodup ((secO (nf ms) A).take o)) fun a ha => ((fmsM_ok _).2 a).1 ha
      rw [List.length_take] at this
      omega
    have hralt : ∀ g, ra.ownBlock = some g → g < u1.heap.size := fun g hg => (hra.lt g hg).2
    refine go ?_
    refine meet (fun r w' => r 1 = .int .i64 i ∧ r 2 = .int .i64 k ∧ r 3 = .pointer (some p) ∧ r 8 = lb ∧ r 9 = ra ∧ r 10 = rb ∧ r 11 = .int .i64 o ∧ ∃ (p12 : Addr) (x : Value) (B E : Nat), r 12 = .pointer (some p12) ∧ Bx w' u1.heap.size p12 29 x ∧ OM w' B E 38 2 x xx ∧ Below u1.heap.size u1 w') ?_ ?_
    · refine region_hS (fun w' => w'.cell? p = some v) mixed (fun u2 cr => ?_)
      replace hv1 := hv1.below cr
      replace hx1 := hx1.below cr
      replace hbx1 := cell_below hbx1 cr
      refine h_p 0 hbx1 ?_ (hrun := fun w' h => yl)
      refine h_p 1 hbx1 ?_ (hrun := fun w' h => yl)
      refine h_p 2 hbx1 ?_ (hrun := fun w' h => yl)
      refine h_p 4 hbx1 ?_ (hrun := fun w' h => yl)
      refine h_p 5 hbx1 ?_ (hrun := fun w' h => yl)
      refine h_two 3 8 ?_ ?_
      · skip
        refine s_call2 (wn rfl) rfl rfl rfl (l01Index_any _ _ _ _ hx1.il) ?_
        rintro _ _ ⟨rfl, rfl⟩
        refine w_nil ?_
        refine h_on ⟨hbx1, ?_⟩
        refine h_two 6 8 ?_ ?_
        · skip
          refine s_call4 (wn rfl) rfl rfl rfl rfl rfl (l04Section_any _ _ (nf ms) _ i k _ hv1 hm.syst ⟨i0, i1⟩ hi (by omega) (by omega)) ?_
          rintro _ u4 ⟨y6, rfl, ho6, hd4⟩
          have hAe : (ms.take (k + 1).toNat).drop i.toNat = A := hAg
          rw [hAe] at ho6
          have hv1 := hv1.below hd4
          have hx1 := hx1.below hd4
          have hbx1 := cell_below hbx1 hd4
          have hd4n := cr.trans (hd4.mono cr.size)
          refine w_nil ?_
          refine h_on ⟨hbx1, ?_⟩
          refine h_two 7 8 ?_ ?_
          · skip
            refine s_call1 (wn rfl) rfl rfl (l02Least_any _ _ _ ho6.rl hfm) ?_
            rintro _ u5 ⟨y7, rfl, ho7, hd5⟩
            rw [hxe] at ho7
            have hv1 := hv1.below hd5
            have hx1 := hx1.below hd5
            have hbx1 := cell_below hbx1 hd5
            have ho6 := ho6.below hd5
            have hd5n := hd4n.trans (hd5.mono hd4n.size)
            refine w_nil ?_
            refine h_on ⟨hbx1, ?_⟩
            refine h_one 8 ?_
            refine s_alloc (B := u1.heap.size) (wn rfl) rfl hd5n.size (fun u6 p12 hbq hgq6 _ => ?_)
            have hd6 := below_of_grownBy hgq6
            have hv1 := hv1.below hd6
            have hx1 := hx1.below hd6
            have hbx1 := cell_below hbx1 hd6
            have ho6 := ho6.below hd6
            have ho7 := ho7.below hd6
            have hd6n := hd5n.trans (hd6.mono hd5n.size)
            refine w_nil ?_
            refine h_on ⟨hbx1, ?_⟩
            refine h_one 9 ?_
            refine s_storeBox (wn rfl) rfl rfl ho7.sv.one hbq (fun u7 hbq2 hgz => ?_)
            have ho8 := ho7.boxE hbq (by decide) (by decide) hgz
            have hbx8 := cell_kept hbx1 hgz (fun e => by have h1 := Option.some.inj e; have h2 := hbq.low; omega)
            have hdz := hd6n.trans (hbq.below_of hgz hd6n.size)
            refine w_nil ?_
            refine h_on ⟨hbx8, ?_⟩
            refine h_nil ?_
            exact ⟨rfl, rfl, rfl, rfl, rfl, rfl, rfl, p12, _, _, _, rfl, hbq2, ho8, hdz⟩
          · skip
            refine s_alloc (B := u1.heap.size) (wn rfl) rfl hd4n.size (fun u8 p12 hbq hgq8 _ => ?_)
            have hd8 := below_of_grownBy hgq8
            have hv1 := hv1.below hd8
            have hx1 := hx1.below hd8
            have hbx1 := cell_below hbx1 hd8
            have ho6 := ho6.below hd8
            have hd8n := hd4n.trans (hd8.mono hd4n.size)
            refine w_nil ?_
            refine h_on ⟨hbx1, ?_⟩
            refine h_one 7 ?_
            refine s_call1 (wn rfl) rfl rfl (l02Least_any _ _ _ ho6.rl hfm) ?_
            rintro _ u9 ⟨y7, rfl, ho7, hd9⟩
            rw [hxe] at ho7
            have hv1 := hv1.below hd9
            have hx1 := hx1.below hd9
            have hbx1 := cell_below hbx1 hd9
            have ho6 := ho6.below hd9
            have hbq := hbq.below hd9
            have hd9n := hd8n.trans (hd9.mono hd8n.size)
            refine w_nil ?_
            refine h_on ⟨hbx1, ?_⟩
            refine h_one 9 ?_
            refine s_storeBox (wn rfl) rfl rfl ho7.sv.one hbq (fun u10 hbq2 hgz => ?_)
            have ho8 := ho7.boxE hbq (by decide) (by decide) hgz
            have hbx8 := cell_kept hbx1 hgz (fun e => by have h1 := Option.some.inj e; have h2 := hbq.low; omega)
            have hdz := hd9n.trans (hbq.below_of hgz hd9n.size)
            refine w_nil ?_
            refine h_on ⟨hbx8, ?_⟩
            refine h_nil ?_
            exact ⟨rfl, rfl, rfl, rfl, rfl, rfl, rfl, p12, _, _, _, rfl, hbq2, ho8, hdz⟩
        · skip
          refine s_alloc (B := u1.heap.size) (wn rfl) rfl cr.size (fun u11 p12 hbq hgq11 _ => ?_)
          have hd11 := below_of_grownBy hgq11
          have hv1 := hv1.below hd11
          have hx1 := hx1.below hd11
          have hbx1 := cell_below hbx1 hd11
          have hd11n := cr.trans (hd11.mono cr.size)
          refine w_nil ?_
          refine h_on ⟨hbx1, ?_⟩
          refine h_one 6 ?_
          refine s_call4 (wn rfl) rfl rfl rfl rfl rfl (l04Section_any _ _ (nf ms) _ i k _ hv1 hm.syst ⟨i0, i1⟩ hi (by omega) (by omega)) ?_
          rintro _ u12 ⟨y6, rfl, ho6, hd12⟩
          have hAe : (ms.take (k + 1).toNat).drop i.toNat = A := hAg
          rw [hAe] at ho6
          have hv1 := hv1.below hd12
          have hx1 := hx1.below hd12
          have hbx1 := cell_below hbx1 hd12
          have hbq := hbq.below hd12
          have hd12n := hd11n.trans (hd12.mono hd11n.size)
          refine w_nil ?_
          refine h_on ⟨hbx1, ?_⟩
          refine h_one 7 ?_
          refine s_call1 (wn rfl) rfl rfl (l02Least_any _ _ _ ho6.rl hfm) ?_
          rintro _ u13 ⟨y7, rfl, ho7, hd13⟩
          rw [hxe] at ho7
          have hv1 := hv1.below hd13
          have hx1 := hx1.below hd13
          have hbx1 := cell_below hbx1 hd13
          have hbq := hbq.below hd13
          have ho6 := ho6.below hd13
          have hd13n := hd12n.trans (hd13.mono hd12n.size)
          refine w_nil ?_
          refine h_on ⟨hbx1, ?_⟩
          refine h_one 9 ?_
          refine s_storeBox (wn rfl) rfl rfl ho7.sv.one hbq (fun u14 hbq2 hgz => ?_)
          have ho8 := ho7.boxE hbq (by decide) (by decide) hgz
          have hbx8 := cell_kept hbx1 hgz (fun e => by have h1 := Option.some.inj e; have h2 := hbq.low; omega)
          have hdz := hd13n.trans (hbq.below_of hgz hd13n.size)
          refine w_nil ?_
          refine h_on ⟨hbx8, ?_⟩
          refine h_nil ?_
          exact ⟨rfl, rfl, rfl, rfl, rfl, rfl, rfl, p12, _, _, _, rfl, hbq2, ho8, hdz⟩
      · skip
        refine s_alloc (B := u1.heap.size) (wn rfl) rfl cr.size (fun u15 p12 hbq hgq15 _ => ?_)
        have hd15 := below_of_grownBy hgq15
        have hv1 := hv1.below hd15
        have hx1 := hx1.below hd15
        have hbx1 := cell_below hbx1 hd15
        have hd15n := cr.trans (hd15.mono cr.size)
        refine w_nil ?_
        refine h_on ⟨hbx1, ?_⟩
        refine h_one 3 ?_
        refine s_call2 (wn rfl) rfl rfl rfl (l01Index_any _ _ _ _ hx1.il) ?_
        rintro _ _ ⟨rfl, rfl⟩
        refine w_nil ?_
        refine h_on ⟨hbx1, ?_⟩
        refine h_one 6 ?_
        refine s_call4 (wn rfl) rfl rfl rfl rfl rfl (l04Section_any _ _ (nf ms) _ i k _ hv1 hm.syst ⟨i0, i1⟩ hi (by omega) (by omega)) ?_
        rintro _ u17 ⟨y6, rfl, ho6, hd17⟩
        have hAe : (ms.take (k + 1).toNat).drop i.toNat = A := hAg
        rw [hAe] at ho6
        have hv1 := hv1.below hd17
        have hx1 := hx1.below hd17
        have hbx1 := cell_below hbx1 hd17
        have hbq := hbq.below hd17
        have hd17n := hd15n.trans (hd17.mono hd15n.size)
        refine w_nil ?_
        refine h_on ⟨hbx1, ?_⟩
        refine h_one 7 ?_
        refine s_call1 (wn rfl) rfl rfl (l02Least_any _ _ _ ho6.rl hfm) ?_
        rintro _ u18 ⟨y7, rfl, ho7, hd18⟩
        rw [hxe] at ho7
        have hv1 := hv1.below hd18
        have hx1 := hx1.below hd18
        have hbx1 := cell_below hbx1 hd18
        have hbq := hbq.below hd18
        have ho6 := ho6.below hd18
        have hd18n := hd17n.trans (hd18.mono hd17n.size)
        refine w_nil ?_
        refine h_on ⟨hbx1, ?_⟩
        refine h_one 9 ?_
        refine s_storeBox (wn rfl) rfl rfl ho7.sv.one hbq (fun u19 hbq2 hgz => ?_)
        have ho8 := ho7.boxE hbq (by decide) (by decide) hgz
        have hbx8 := cell_kept hbx1 hgz (fun e => by have h1 := Option.some.inj e; have h2 := hbq.low; omega)
        have hdz := hd18n.trans (hbq.below_of hgz hd18n.size)
        refine w_nil ?_
        refine h_on ⟨hbx8, ?_⟩
        refine h_nil ?_
        exact ⟨rfl, rfl, rfl, rfl, rfl, rfl, rfl, p12, _, _, _, rfl, hbq2, ho8, hdz⟩
    · skip
      rintro r u9 ⟨g1, g2, g3, g8, g9, g10, g11, p12, x, Bq, Eq, g12, hbq, hox, hd9⟩
      have zd9 := hd9.size
      replace hra := hra.below hd9
      replace hEa := hEa.below hd9
      replace hrb := hrb.below hd9
      replace hEb := hEb.below hd9
      have sox := hox.sv
      have hcx := hbq.cell
      clear hv1 hx1 hbx1
      refine know (t := 1) g1 ?_; refine know (t := 2) g2 ?_; refine know (t := 3) g3 ?_; refine know (t := 8) g8 ?_; refine know (t := 9) g9 ?_; refine know (t := 10) g10 ?_; refine know (t := 11) g11 ?_; refine know (t := 12) g12 ?_
      refine go ?_
      refine s_buildE (B := u9.heap.size) [x] (wn rfl) rfl rfl (by decide) rfl (by simpa using sox.one) (Nat.le_refl _) (fun tb u10 htb hg10 _ => ?_)
      have hd10 := below_of_grownBy hg10
      replace hra := hra.below hd10
      replace hEa := hEa.below hd10
      replace hrb := hrb.below hd10
      replace hEb := hEb.below hd10
      replace hbq := hbq.below hd10
      replace hox := hox.below hd10
      have zd10 := hd10.size
      refine go ?_
      refine s_appendE (wn rfl) rfl rfl rfl hra htb.rd (by simpa using sox.one) (by simp; omega) (by omega) (fun ra' u11 hra' hg11 hown => ?_)
      have hd11 := hg11.size
      have hlb' := (hrb.lt)
      have hbr : ∀ g, ra.ownBlock = some g → g < u1.heap.size := fun g hg => hralt g hg
      have hrb2 := hrb.kept hg11 (by
        cases hob : rb.ownBlock with
        | none => exact .inl rfl
        | some g => exact .inr (fun e => hap g e.symm hob))
      have hEb2 := hEb.kept hra (by decide) (by decide) hg11
      have hEa2 := (hEa.kept hra (by decide) (by decide) hg11).app (Els.single (hox.kept_type hra (by decide) (by decide) hg11))
      have hox2 := hox.kept_type hra (by decide) (by decide) hg11
      have hbq2 := hbq.kept hg11 (fun e => by have h1 := hbr _ e; have h2 := hbq.low; omega)
      have hap2 : ∀ g, ra'.ownBlock = some g → rb.ownBlock ≠ some g := fun g h1 h2 => by
        rcases hown with h3 | h3
        · rw [h3] at h1; exact hap g h1 h2
        · rw [h3] at h1
          have h4 := Option.some.inj h1
          have h5 := (hrb.lt g h2).2
          omega
      have hc11 : Below w4.heap.size w4 u11 := ((hc.trans (hd9.mono zc)).trans (hd10.mono (by omega))).trans (grownBy_below hg11 (by omega) (fun g hg => (hra.lt g hg).1))
      clear hra hEa hrb hEb hap hbq hox hcx
      have hra := hra'
      have hrb := hrb2
      have hEb := hEb2
      have hox := hox2
      have hbq := hbq2
      clear hra' hrb2 hEb2 hox2 hbq2
      rw [← e1] at hEa2
      refine go ?_
      refine w_loop (fun kk fr w' => ∃ (q : Nat), kk = F.length - q ∧ q ≤ F.length ∧ fr 1 = .int .i64 i ∧ fr 2 = .int .i64 k ∧ fr 3 = .pointer (some p) ∧ fr 8 = lb ∧ fr 9 = ra' ∧ fr 10 = rb ∧ fr 11 = .int .i64 o ∧ fr 12 = .pointer (some p12) ∧ fr 13 = .int .i64 q ∧ (∀ j, j < q → befM (F.getD j []) xx = true) ∧ Below u11.heap.size u11 w') F.length
        ⟨0, rfl, Nat.zero_le _, rfl, rfl, rfl, rfl, rfl, rfl, rfl, rfl, rfl, fun j hj => by omega, Below.refl _ _⟩ ?_
      rintro kk fr u12 ⟨q, rfl, hqF, g1, g2, g3, g8, g9, g10, g11, g12, g13, hbef, hd12⟩
      replace hra := hra.below hd12
      replace hEa2 := hEa2.below hd12
      replace hrb := hrb.below hd12
      replace hEb := hEb.below hd12
      replace hbq := hbq.below hd12
      replace hox := hox.below hd12
      replace hc11 := hc11.trans (hd12.mono hc11.size)
      refine know (t := 1) g1 ?_; refine know (t := 2) g2 ?_; refine know (t := 3) g3 ?_; refine know (t := 8) g8 ?_; refine know (t := 9) g9 ?_; refine know (t := 10) g10 ?_; refine know (t := 11) g11 ?_; refine know (t := 12) g12 ?_; refine know (t := 13) g13 ?_
      refine go ?_
      refine meet (fun r w' => r 1 = .int .i64 i ∧ r 2 = .int .i64 k ∧ r 3 = .pointer (some p) ∧ r 8 = lb ∧ r 9 = ra' ∧ r 10 = rb ∧ r 11 = .int .i64 o ∧ r 12 = .pointer (some p12) ∧ r 13 = .int .i64 q ∧ r 58 = .bool (decide (q < F.length) && befM (F.getD q []) xx) ∧ Below u12.heap.size u12 w') ?_ ?_
      · by_cases hq : q < F.length
        · have hqv : q < vb.length := by omega
          obtain ⟨_, _, hu⟩ := hEb.row q (vb.getD q undef) (F.getD q []) (by simp [List.getD, hqv]) (by simp [List.getD, hq])
          have hcu : u12.cell? (addrOf rb ((q : Int)).toNat) = some (vb.getD q undef) := by
            rw [show ((q : Int)).toNat = q by omega]
            exact hrb.rd.cell (by simp [List.getD, hqv])
          have hru := hu.rl
          have hcx := hbq.cell
          have hrx := hox.rl
          have hdt : decide ((q : Int) < (F.length : Int)) = true := decide_eq_true (by omega)
          refine region_hS (fun w' => w'.cell? (addrOf rb ((q : Int)).toNat) = some (vb.getD q undef) ∧ w'.cell? p12 = some x) mixed (fun y1 cr => ?_)
          replace hcu := cell_below hcu cr
          replace hcx := cell_below hcx cr
          replace hru := hru.below cr
          replace hrx := hrx.below cr
          refine h_p 0 ⟨hcu, hcx⟩ ?_ (hrun := fun w' h => by obtain ⟨h1, h2⟩ := h; exact yl)
          refine h_p 1 ⟨hcu, hcx⟩ ?_ (hrun := fun w' h => by obtain ⟨h1, h2⟩ := h; exact yl)
          refine h_p 2 ⟨hcu, hcx⟩ ?_ (hrun := fun w' h => by obtain ⟨h1, h2⟩ := h; exact yl)
          refine h_p 3 ⟨hcu, hcx⟩ ?_ (hrun := fun w' h => by obtain ⟨h1, h2⟩ := h; exact yl)
          rw [hdt]
          refine h_p 4 ⟨hcu, hcx⟩ ?_ (hrun := fun w' h => by obtain ⟨h1, h2⟩ := h; exact yl)
          refine h_p 5 ⟨hcu, hcx⟩ ?_ (hrun := fun w' h => by obtain ⟨h1, h2⟩ := h; exact yl)
          refine h_p 6 ⟨hcu, hcx⟩ ?_ (hrun := fun w' h => by obtain ⟨h1, h2⟩ := h; exact yl)
          refine h_p 7 ⟨hcu, hcx⟩ ?_ (hrun := fun w' h => y_idxSE rfl rfl srb (by omega) (by omega))
          refine h_p 8 ⟨hcu, hcx⟩ ?_ (hrun := fun w' h => by obtain ⟨h1, h2⟩ := h; exact yl)
          refine h_p 9 ⟨hcu, hcx⟩ ?_ (hrun := fun w' h => by obtain ⟨h1, h2⟩ := h; exact yl)
          refine h_one 10 ?_
          refine s_call2 (wy rfl rfl rfl rfl rfl known) rfl rfl rfl (l04Before_any _ _ _ _ _ hru hrx (hall q hqv) hxr1) ?_
          rintro _ y2 ⟨rfl, hd2⟩
          replace hcu := cell_below hcu hd2
          replace hcx := cell_below hcx hd2
          refine w_nil ?_
          refine h_on ⟨⟨hcu, hcx⟩, ?_⟩
          refine h_p 11 ⟨hcu, hcx⟩ ?_ (hrun := fun w' h => y_pick_true rfl known rfl)
          refine h_nil ?_
          exact ⟨rfl, rfl, rfl, rfl, rfl, rfl, rfl, rfl, rfl, by show Value.bool _ = _; simp [hq], cr.trans (hd2.mono cr.size)⟩
        · have hdt : decide ((q : Int) < (F.length : Int)) = false := decide_eq_false (by omega)
          refine region_hS (fun w' => True) mixed (fun y1 cr => ?_)
          refine h_p 0 trivial ?_ (hrun := fun w' h => yl)
          refine h_p 1 trivial ?_ (hrun := fun w' h => yl)
          refine h_p 2 trivial ?_ (hrun := fun w' h => yl)
          refine h_p 3 trivial ?_ (hrun := fun w' h => yl)
          rw [hdt]
          refine h_p 4 trivial ?_ (hrun := fun w' h => yl)
          refine h_no 5 trivial ?_
          refine h_no 6 trivial ?_
          refine h_no 7 trivial ?_
          refine h_no 8 trivial ?_
          refine h_no 9 trivial ?_
          refine h_no 10 trivial ?_
          refine h_p 11 trivial ?_ (hrun := fun w' h => y_pick_false rfl known rfl)
          refine h_nil ?_
          exact ⟨rfl, rfl, rfl, rfl, rfl, rfl, rfl, rfl, rfl, by show Value.bool _ = _; simp [hq], cr⟩
      · skip
        rintro r u13 ⟨g1, g2, g3, g8, g9, g10, g11, g12, g13, g58, hd13⟩
        replace hra := hra.below hd13
        replace hEa2 := hEa2.below hd13
        replace hrb := hrb.below hd13
        replace hEb := hEb.below hd13
        replace hbq := hbq.below hd13
        replace hox := hox.below hd13
        replace hc11 := hc11.trans (hd13.mono hc11.size)
        refine know (t := 1) g1 ?_; refine know (t := 2) g2 ?_; refine know (t := 3) g3 ?_; refine know (t := 8) g8 ?_; refine know (t := 9) g9 ?_; refine know (t := 10) g10 ?_; refine know (t := 11) g11 ?_; refine know (t := 12) g12 ?_; refine know (t := 13) g13 ?_; refine know (t := 58) g58 ?_
        refine splitb (decide (q < F.length) && befM (F.getD q []) xx) (fun hbb => ?_) (fun hbb => ?_)
        · have hbb2 : q < F.length ∧ befM (F.getD q []) xx = true := by simpa using hbb
          refine go ?_
          exact ⟨F.length - (q + 1), by omega, q + 1, rfl, by omega, rfl, rfl, rfl, rfl, rfl, rfl, rfl, rfl, rfl, fun j hj => by by_cases hjq : j = q; (subst hjq; exact hbb2.2); exact hbef j (by omega), hd12.trans (hd13.mono hd12.size)⟩
        have hat := insM_at F xx q hqF hbef hbb
        refine go ?_
        refine meet (fun r w' => r 1 = .int .i64 i ∧ r 2 = .int .i64 k ∧ r 3 = .pointer (some p) ∧ r 8 = lb ∧ r 9 = ra' ∧ r 10 = rb ∧ r 11 = .int .i64 o ∧ r 12 = .pointer (some p12) ∧ r 13 = .int .i64 q ∧ r 72 = .bool (decide (q < F.length) && decide (F.getD q [] = xx)) ∧ Below u13.heap.size u13 w') ?_ ?_
        · by_cases hq : q < F.length
          · have hqv : q < vb.length := by omega
            obtain ⟨_, _, hu⟩ := hEb.row q (vb.getD q undef) (F.getD q []) (by simp [List.getD, hqv]) (by simp [List.getD, hq])
            have hcu : u13.cell? (addrOf rb ((q : Int)).toNat) = some (vb.getD q undef) := by
              rw [show ((q : Int)).toNat = q by omega]
              exact hrb.rd.cell (by simp [List.getD, hqv])
            have hru := hu.rl
            have hcx := hbq.cell
            have hrx := hox.rl
            have hdt : decide ((q : Int) < (F.length : Int)) = true := decide_eq_true (by omega)
            refine region_hS (fun w' => w'.cell? (addrOf rb ((q : Int)).toNat) = some (vb.getD q undef) ∧ w'.cell? p12 = some x) mixed (fun y1 cr => ?_)
            replace hcu := cell_below hcu cr
            replace hcx := cell_below hcx cr
            replace hru := hru.below cr
            replace hrx := hrx.below cr
            refine h_p 0 ⟨hcu, hcx⟩ ?_ (hrun := fun w' h => by obtain ⟨h1, h2⟩ := h; exact yl)
            refine h_p 1 ⟨hcu, hcx⟩ ?_ (hrun := fun w' h => by obtain ⟨h1, h2⟩ := h; exact yl)
            refine h_p 2 ⟨hcu, hcx⟩ ?_ (hrun := fun w' h => by obtain ⟨h1, h2⟩ := h; exact yl)
            refine h_p 3 ⟨hcu, hcx⟩ ?_ (hrun := fun w' h => by obtain ⟨h1, h2⟩ := h; exact yl)
            rw [hdt]
            refine h_p 4 ⟨hcu, hcx⟩ ?_ (hrun := fun w' h => by obtain ⟨h1, h2⟩ := h; exact yl)
            refine h_p 5 ⟨hcu, hcx⟩ ?_ (hrun := fun w' h => by obtain ⟨h1, h2⟩ := h; exact yl)
            refine h_p 6 ⟨hcu, hcx⟩ ?_ (hrun := fun w' h => by obtain ⟨h1, h2⟩ := h; exact yl)
            refine h_p 7 ⟨hcu, hcx⟩ ?_ (hrun := fun w' h => y_idxSE rfl rfl srb (by omega) (by omega))
            refine h_p 8 ⟨hcu, hcx⟩ ?_ (hrun := fun w' h => by obtain ⟨h1, h2⟩ := h; exact yl)
            refine h_p 9 ⟨hcu, hcx⟩ ?_ (hrun := fun w' h => by obtain ⟨h1, h2⟩ := h; exact yl)
            refine h_one 10 ?_
            refine s_call2 (wy rfl rfl rfl rfl rfl known) rfl rfl rfl (l02Same_any _ _ _ _ _ hru hrx) ?_
            rintro _ y2 ⟨rfl, hd2⟩
            replace hcu := cell_below hcu hd2
            replace hcx := cell_below hcx hd2
            refine w_nil ?_
            refine h_on ⟨⟨hcu, hcx⟩, ?_⟩
            refine h_p 11 ⟨hcu, hcx⟩ ?_ (hrun := fun w' h => y_pick_true rfl known rfl)
            refine h_nil ?_
            exact ⟨rfl, rfl, rfl, rfl, rfl, rfl, rfl, rfl, rfl, by show Value.bool _ = _; simp [hq], cr.trans (hd2.mono cr.size)⟩
          · have hdt : decide ((q : Int) < (F.length : Int)) = false := decide_eq_false (by omega)
            refine region_hS (fun w' => True) mixed (fun y1 cr => ?_)
            refine h_p 0 trivial ?_ (hrun := fun w' h => yl)
            refine h_p 1 trivial ?_ (hrun := fun w' h => yl)
            refine h_p 2 trivial ?_ (hrun := fun w' h => yl)
            refine h_p 3 trivial ?_ (hrun := fun w' h => yl)
            rw [hdt]
            refine h_p 4 trivial ?_ (hrun := fun w' h => yl)
            refine h_no 5 trivial ?_
            refine h_no 6 trivial ?_
            refine h_no 7 trivial ?_
            refine h_no 8 trivial ?_
            refine h_no 9 trivial ?_
            refine h_no 10 trivial ?_
            refine h_p 11 trivial ?_ (hrun := fun w' h => y_pick_false rfl known rfl)
            refine h_nil ?_
            exact ⟨rfl, rfl, rfl, rfl, rfl, rfl, rfl, rfl, rfl, by show Value.bool _ = _; simp [hq], cr⟩
        · skip
          rintro r u14 ⟨g1, g2, g3, g8, g9, g10, g11, g12, g13, g72, hd14⟩
          replace hra := hra.below hd14
          replace hEa2 := hEa2.below hd14
          replace hrb := hrb.below hd14
          replace hEb := hEb.below hd14
          replace hbq := hbq.below hd14
          replace hox := hox.below hd14
          replace hc11 := hc11.trans (hd14.mono hc11.size)
          refine know (t := 1) g1 ?_; refine know (t := 2) g2 ?_; refine know (t := 3) g3 ?_; refine know (t := 8) g8 ?_; refine know (t := 9) g9 ?_; refine know (t := 10) g10 ?_; refine know (t := 11) g11 ?_; refine know (t := 12) g12 ?_; refine know (t := 13) g13 ?_; refine know (t := 72) g72 ?_
          refine splitb (decide (q < F.length) && decide (F.getD q [] = xx)) (fun hsm => ?_) (fun hsm => ?_)
          · rw [if_pos hsm] at hat
            refine go ?_
            exact ⟨m - (o + 1), by omega, o + 1, _, _, _, _, rfl, by omega, rfl, rfl, rfl, rfl, rfl, rfl, rfl, hra, hEa2, hrb, by rw [e1, hins, hat]; exact hEb, hap2, hc11⟩
          rw [if_neg (by rw [hsm]; simp)] at hat
          have hcx := hbq.cell
          have hrblt : ∀ g, rb.ownBlock = some g → g < u14.heap.size := fun g hg => (hrb.lt g hg).2
          have hpqlt := hbq.lt
          refine go ?_
          refine region_hS (fun w' => w'.cell? p12 = some x ∧ Own w' w4.heap.size 29 rb vb) mixed (fun u15 cr => ?_)
          replace hcx := cell_below hcx cr
          replace hrb := hrb.below cr
          have zr := cr.size
          refine h_p 0 ⟨hcx, hrb⟩ ?_ (hrun := fun w' h => by obtain ⟨h1, h2⟩ := h; exact yl)
          refine h_p 2 ⟨hcx, hrb⟩ ?_ (hrun := fun w' h => by obtain ⟨h1, h2⟩ := h; exact yl)
          refine h_p 3 ⟨hcx, hrb⟩ ?_ (hrun := fun w' h => by obtain ⟨h1, h2⟩ := h; exact yl)
          refine h_p 4 ⟨hcx, hrb⟩ ?_ (hrun := fun w' h => y_cut_loE rfl rfl h.2.rd (by omega) (by omega))
          refine h_one 1 ?_
          refine s_buildE (B := u14.heap.size) [x] (wn rfl) rfl rfl (by decide) rfl (by simpa using sox.one) zr (fun tc u16 htc hg16 _ => ?_)
          have hd16 := below_of_grownBy hg16
          replace hcx := cell_below hcx hd16
          replace hrb := hrb.below hd16
          have cr16 := cr.trans (hd16.mono zr)
          refine w_nil ?_
          refine h_on ⟨⟨hcx, hrb⟩, ?_⟩
          refine h_one 5 ?_
          have hone := hEb.one
          have hct := hrb.rd.cut (l := q) (r := vb.length) (by omega) (Nat.le_refl _)
          rw [List.take_length] at hct
          have heq : ((q : Int)).toNat = q := by omega
          rw [heq]
          refine s_appendE (wn rfl) rfl rfl rfl htc hct (fun u hu => hone u (List.mem_of_mem_drop hu)) (by simp; omega) cr16.size (fun td u17 htd hg17 _ => ?_)
          have cr17 := cr16.trans (grownBy_below hg17 cr16.size (fun g hg => (htc.lt g hg).1))
          have hd17 : Below u16.heap.size u16 u17 ∨ True := .inr trivial
          have hrb17 := hrb.kept hg17 (by
            cases hob : rb.ownBlock with
            | none => exact .inl rfl
            | some g => exact .inr (fun e => by have h1 := (htc.lt g e.symm).1; have h2 := hrblt g hob; omega))
          have hcx17 := cell_kept hcx hg17 (fun e => by have h1 := (htc.lt _ e.symm).1; have h2 := hpqlt; omega)
          refine w_nil ?_
          refine h_on ⟨⟨hcx17, hrb17⟩, ?_⟩
          refine h_p 6 ⟨hcx17, hrb17⟩ ?_ (hrun := fun w' h => by obtain ⟨h1, h2⟩ := h; exact yl)
          refine h_nil ?_
          clear hrb
          have hra17 := hra.below cr17
          have hEa17 := hEa2.below cr17
          have hEb17 := hEb.below cr17
          have hox17 := hox.below cr17
          have hc17 := hc11.trans (cr17.mono hc11.size)
          have zq := cr17.size
          have zc17 := hc17.size
          refine go ?_
          refine s_buildE (B := u17.heap.size) [] (wn rfl) rfl rfl (by decide) rfl (by simp) (Nat.le_refl _) (fun te u18 hte hg18 _ => ?_)
          have hd18 := below_of_grownBy hg18
          have hrb18 := hrb17.below hd18
          have htd18 := htd.below hd18
          have zq18 := hd18.size
          refine go ?_
          refine s_p (wn rfl) rfl (y_cut_hiE rfl rfl hrb18.rd (by omega) (by omega)) ?_
          rw [heq]
          have hct2 := hrb18.rd.cut (l := 0) (r := q) (by omega) (by omega)
          rw [List.drop_zero] at hct2
          refine go ?_
          refine s_appendE (wn rfl) rfl rfl rfl hte hct2 (fun u hu => hone u (List.mem_of_mem_take hu)) (by simp; omega) zq18 (fun tf u19 htf hg19 _ => ?_)
          have hd19 := hd18.trans (grownBy_below hg19 hd18.size (fun g hg => (hte.lt g hg).1))
          have htd19 := htd.below hd19
          refine go ?_
          refine s_appendE (wn rfl) rfl rfl rfl htf htd19.rd (by intro u hu; simp at hu; rcases hu with h | h; (rw [h]; exact sox.one); exact hone u (List.mem_of_mem_drop h)) (by simp; omega) hd19.size (fun tg u20 htg hg20 _ => ?_)
          have hd20 := hd19.trans (grownBy_below hg20 hd19.size (fun g hg => (htf.lt g hg).1))
          have zq20 := hd20.size
          refine go ?_
          refine ⟨m - (o + 1), by omega, o + 1, ra', tg, _, _, rfl, by omega, rfl, rfl, rfl, rfl, rfl, rfl, rfl, hra17.below hd20, hEa17.below hd20, htg.mono (by omega), ?_, fun g h1 h2 => ?_, hc17.trans (hd20.mono zc17)⟩
          · rw [e1, hins, hat]
            have h3 := (hEb17.take q).app ((Els.single hox17).app (hEb17.drop q))
            have h4 := h3.below hd20
            simpa using h4
          · have h3 := (hra17.lt g h1).2
            have h4 := (htg.lt g h2).1
            omega
  obtain rfl : o = m := by omega
  have hto : (secO (nf ms) A).take (labc (nf ms) A).toNat = secO (nf ms) A := List.take_of_length_le (by omega)
  rw [show o = (labc (nf ms) A).toNat by omega, hto] at hEa hEb
  have hal2 : va.length = (labc (nf ms) A).toNat := by omega
  have hsF : fmsM (secO (nf ms) A) = secF (nf ms) A := rfl
  rw [hsF] at hEb
  have hbl2 := hEb.len
  have srb := hrb.sv
  have sra := hra.sv
  have hkl : (secK (nf ms) A).length = nf ms := by simp [secK, hll]
  refine go ?_
  refine s_build0 (B := u1.heap.size) (wn rfl) rfl (Nat.le_refl _) (fun ky u2 hky sky hg2 _ => ?_)
  have hd2 := below_of_grownBy hg2
  refine go ?_
  refine w_loop (fun kk fr w' => ∃ (t : Nat) (ky : Value), kk = nf ms - t ∧ t ≤ nf ms ∧ fr 8 = lb ∧ fr 9 = ra ∧ fr 10 = rb ∧ fr 15 = ky ∧ fr 16 = .int .i64 t ∧ OI w' u1.heap.size 2 ky ((secK (nf ms) A).take t) ∧ Below u1.heap.size u1 w') (nf ms)
    ⟨0, _, rfl, Nat.zero_le _, rfl, rfl, rfl, rfl, rfl, hky, hd2⟩ ?_
  clear hky hd2 hg2
  rintro kk fr u3 ⟨t, ky, rfl, ht, f8, f9, f10, f15, f16, hky, hd3⟩
  have hx3 := hx1.below hd3
  have sx3 := hx3.sv
  rw [hll] at sx3
  refine know (t := 8) f8 ?_; refine know (t := 9) f9 ?_; refine know (t := 10) f10 ?_; refine know (t := 15) f15 ?_; refine know (t := 16) f16 ?_
  refine go ?_
  refine cond_dec rfl (fun hlt => ?_) (fun hge2 => ?_)
  · have hgl := hL.rng t (by omega) (by omega)
    have hgd := hL.done t (by omega) (by omega) (by omega)
    have hlt2 : (gi (labs (nf ms) A) t).toNat < va.length := by omega
    have hin : (secO (nf ms) A).getD (gi (labs (nf ms) A) t).toNat [] ∈ secF (nf ms) A := by
      refine ((fmsM_ok (secO (nf ms) A)).2 _).2 ?_
      have h2 : (gi (labs (nf ms) A) t).toNat < (secO (nf ms) A).length := by rw [hso]; omega
      simp [List.getD, h2]
    have egk : gi (secK (nf ms) A) t = (((secF (nf ms) A).idxOf ((secO (nf ms) A).getD (gi (labs (nf ms) A) t).toNat []) : Nat) : Int) := by
      unfold secK
      rw [gi_map (by omega) (by rw [hll]; omega)]
    generalize hae : (secO (nf ms) A).getD (gi (labs (nf ms) A) t).toNat [] = aa at *
    have hix := List.idxOf_lt_length_of_mem hin
    have hnd := fmsM_nodup (secO (nf ms) A)
    rw [hsF] at hnd
    refine go ?_
    refine w_loop (fun kk fr w' => ∃ (j : Nat) (ky : Value), kk = vb.length - j ∧ j ≤ vb.length ∧ fr 8 = lb ∧ fr 9 = ra ∧ fr 10 = rb ∧ fr 15 = ky ∧ fr 16 = .int .i64 t ∧ fr 17 = .int .i64 j ∧ OI w' u1.heap.size 2 ky ((secK (nf ms) A).take t ++ if (secF (nf ms) A).idxOf aa < j then [(((secF (nf ms) A).idxOf aa : Nat) : Int)] else []) ∧ Below u1.heap.size u1 w') vb.length
      ⟨0, ky, rfl, Nat.zero_le _, rfl, rfl, rfl, rfl, rfl, rfl, by simpa using hky, hd3⟩ ?_
    clear hky
    rintro kk fr u4 ⟨j, ky, rfl, hj, f8, f9, f10, f15, f16, f17, hky, hd4⟩
    have hx4 := hx1.below hd4
    have hra4 := hra.below hd4
    have hEa4 := hEa.below hd4
    have hrb4 := hrb.below hd4
    have hEb4 := hEb.below hd4
    refine know (t := 8) f8 ?_; refine know (t := 9) f9 ?_; refine know (t := 10) f10 ?_; refine know (t := 15) f15 ?_; refine know (t := 16) f16 ?_; refine know (t := 17) f17 ?_
    refine go ?_
    refine cond_dec rfl (fun hlt3 => ?_) (fun hge3 => ?_)
    · have hjv : j < vb.length := by omega
      have hjF : j < (secF (nf ms) A).length := by omega
      obtain ⟨_, _, hu⟩ := hEb4.row j (vb.getD j undef) ((secF (nf ms) A).getD j []) (by simp [List.getD, hjv]) (by simp [List.getD, hjF])
      have hcu : u4.cell? (addrOf rb ((j : Int)).toNat) = some (vb.getD j undef) := by
        rw [show ((j : Int)).toNat = j by omega]
        exact hrb4.rd.cell (by simp [List.getD, hjv])
      obtain ⟨_, _, hu2⟩ := hEa4.row (gi (labs (nf ms) A) t).toNat (va.getD (gi (labs (nf ms) A) t).toNat undef) aa (by simp [List.getD, hlt2]) (by rw [← hae]; simp [List.getD, hso, show (gi (labs (nf ms) A) t).toNat < (labc (nf ms) A).toNat by omega])
      have hcu2 : u4.cell? (addrOf ra (gi (labs (nf ms) A) t).toNat) = some (va.getD (gi (labs (nf ms) A) t).toNat undef) := hra4.rd.cell (by simp [List.getD, hlt2])
      have hru := hu.rl
      have hru2 := hu2.rl
      have hlx := hx4.il
      refine go ?_
      refine meet (fun r w' => r 8 = lb ∧ r 9 = ra ∧ r 10 = rb ∧ r 15 = ky ∧ r 16 = .int .i64 t ∧ r 17 = .int .i64 j ∧ r 110 = .bool (decide ((secF (nf ms) A).getD j [] = aa)) ∧ Below u4.heap.size u4 w') ?_ ?_
      · refine region_hS (fun w' => w'.cell? (addrOf rb ((j : Int)).toNat) = some (vb.getD j undef) ∧ w'.cell? (addrOf ra (gi (labs (nf ms) A) t).toNat) = some (va.getD (gi (labs (nf ms) A) t).toNat undef) ∧ IL w' lb (labs (nf ms) A)) mixed (fun u5 cr => ?_)
        replace hcu := cell_below hcu cr
        replace hcu2 := cell_below hcu2 cr
        replace hlx := hlx.below cr
        replace hru := hru.below cr
        replace hru2 := hru2.below cr
        refine h_p 0 ⟨hcu, hcu2, hlx⟩ ?_ (hrun := fun w' h => by obtain ⟨h1, h2, h3⟩ := h; exact yl)
        refine h_p 1 ⟨hcu, hcu2, hlx⟩ ?_ (hrun := fun w' h => by obtain ⟨h1, h2, h3⟩ := h; exact yl)
        refine h_p 2 ⟨hcu, hcu2, hlx⟩ ?_ (hrun := fun w' h => y_idxSE rfl rfl srb (by omega) (by omega))
        refine h_p 3 ⟨hcu, hcu2, hlx⟩ ?_ (hrun := fun w' h => by obtain ⟨h1, h2, h3⟩ := h; exact yl)
        refine h_p 4 ⟨hcu, hcu2, hlx⟩ ?_ (hrun := fun w' h => by obtain ⟨h1, h2, h3⟩ := h; exact yl)
        refine h_p 5 ⟨hcu, hcu2, hlx⟩ ?_ (hrun := fun w' h => by obtain ⟨h1, h2, h3⟩ := h; exact yl)
        refine h_p 6 ⟨hcu, hcu2, hlx⟩ ?_ (hrun := fun w' h => by obtain ⟨h1, h2, h3⟩ := h; exact yl)
        refine h_p 7 ⟨hcu, hcu2, hlx⟩ ?_ (hrun := fun w' h => by obtain ⟨h1, h2, h3⟩ := h; exact yl)
        refine h_p 8 ⟨hcu, hcu2, hlx⟩ ?_ (hrun := fun w' h => by obtain ⟨h1, h2, h3⟩ := h; exact yl)
        refine h_p 9 ⟨hcu, hcu2, hlx⟩ ?_ (hrun := fun w' h => y_idxSE rfl rfl sra (by omega) (by omega))
        refine h_p 10 ⟨hcu, hcu2, hlx⟩ ?_ (hrun := fun w' h => by obtain ⟨h1, h2, h3⟩ := h; exact yl)
        refine h_one 11 ?_
        refine s_call2 (wn rfl) rfl rfl rfl (l02Same_any _ _ _ _ _ hru hru2) ?_
        rintro _ u6 ⟨rfl, hd6⟩
        refine w_nil ?_
        refine h_on ⟨⟨cell_below hcu hd6, cell_below hcu2 hd6, hlx.below hd6⟩, ?_⟩
        refine h_nil ?_
        exact ⟨rfl, rfl, rfl, rfl, rfl, rfl, rfl, cr.trans (hd6.mono cr.size)⟩
      · rintro r u7 ⟨f8, f9, f10, f15, f16, f17, f110, hd7⟩
        have hky7 := hky.below hd7
        have hd47 := hd4.trans (hd7.mono hd4.size)
        have z47 := hd47.size
        refine know (t := 8) f8 ?_; refine know (t := 9) f9 ?_; refine know (t := 10) f10 ?_; refine know (t := 15) f15 ?_; refine know (t := 16) f16 ?_; refine know (t := 17) f17 ?_; refine know (t := 110) f110 ?_
        refine splitb (decide ((secF (nf ms) A).getD j [] = aa)) (fun hsm => ?_) (fun hsm => ?_)
        · have hsm2 := of_decide_eq_true hsm
          have hji : (secF (nf ms) A).idxOf aa = j := by
            have h1 : (secF (nf ms) A)[j] = aa := by simpa [List.getD, hjF] using hsm2
            rw [← h1]
            exact List.Nodup.idxOf_getElem hnd j hjF
          have sky := hky7.sv
          refine go ?_
          refine s_build1 (B := u7.heap.size) (wn rfl) rfl rfl (Nat.le_refl _) (fun tb u8 htb stb hg8 _ => ?_)
          have hd8 := below_of_grownBy hg8
          have hky8 := hky7.below hd8
          have hd48 := hd47.trans (hd8.mono z47)
          refine go ?_
          refine s_appendI (wn rfl) rfl rfl rfl hky8 htb.il (by simp [hkl]; split <;> simp <;> omega) hd48.size (fun ky' u9 hky9 so hg9 _ => ?_)
          have hd49 := hd48.trans (hky8.below_of hg9 hd48.size)
          refine go ?_
          refine ⟨vb.length - (j + 1), by omega, j + 1, ky', rfl, by omega, rfl, rfl, rfl, rfl, rfl, rfl, ?_, hd49⟩
          rw [hji] at hky9 ⊢
          rw [if_pos (by omega)]
          simpa using hky9
        · have hsm2 := of_decide_eq_false hsm
          have hji : (secF (nf ms) A).idxOf aa ≠ j := fun h => by
            have h1 := List.getElem_idxOf hix
            apply hsm2
            simp only [List.getD, List.getElem?_eq_getElem hjF, Option.getD_some]
            rw [← h1]
            congr 1
            exact h.symm
          refine go ?_
          refine ⟨vb.length - (j + 1), by omega, j + 1, ky, rfl, by omega, rfl, rfl, rfl, rfl, rfl, rfl, ?_, hd47⟩
          have e : (if (secF (nf ms) A).idxOf aa < j + 1 then [(((secF (nf ms) A).idxOf aa : Nat) : Int)] else []) = if (secF (nf ms) A).idxOf aa < j then [(((secF (nf ms) A).idxOf aa : Nat) : Int)] else [] := by
            by_cases h : (secF (nf ms) A).idxOf aa < j
            · rw [if_pos h, if_pos (by omega)]
            · rw [if_neg h, if_neg (by omega)]
          rw [e]; exact hky7
    obtain rfl : j = vb.length := by omega
    rw [if_pos (by omega), ← egk, ← take_gi (by omega)] at hky
    refine go ?_
    exact ⟨nf ms - (t + 1), by omega, t + 1, ky, rfl, by omega, rfl, rfl, rfl, rfl, rfl, hky, hd4⟩
  obtain rfl : t = nf ms := by omega
  rw [List.take_of_length_le (by omega)] at hky
  have hrb3 := hrb.below hd3
  have hEb3 := hEb.below hd3
  have hbz := hbA.trans ((hc.trans (hd3.mono zc)).mono zA)
  refine go ?_
  exact end_two Tryz.results15 rfl rfl ⟨_, _, _, rfl, hrb3.mono zA, hEb3, hky.mono (by omega), hbz⟩
end Go.Proofs.YtdpjjgjeodippaaGreat
