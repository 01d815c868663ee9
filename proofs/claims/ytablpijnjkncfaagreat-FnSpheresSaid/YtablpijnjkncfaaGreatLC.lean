/- Texts laid together: F100 F101 F102 F103. -/
import Derived.Test.YtablpijnjkncfaaGreatLB
import Derived.Test.YtablpijnjkncfaaGreatF27
import Derived.Test.YtablpijnjkncfaaGreatF43
import Derived.Test.YtablpijnjkncfaaGreatF32
/- Contracts: the forms of sections (the program's side). -/
namespace Go.Mem
open Go.RowKit
set_option linter.unusedVariables false
theorem Own.apart_boxE {w : World} {B B' : Nat} {T T' : TypeId} {v u : Value} {vs : List Value} {p : Addr} (h : Own w B T v vs) (k : Bx w B' p T' u) (hT : T ≠ T') : v.ownBlock ≠ some p.block := by
  have h1 := k.row
  rcases h with ⟨rfl, rfl⟩ | ⟨g, off, cap, cur, rfl, hb, hg, _⟩
  · simp [Value.ownBlock]
  · simp only [Value.ownBlock, ne_eq, Option.some.injEq]
    intro e
    rw [← e, hg] at h1
    simp only [Option.some.injEq, Obj.cells.injEq] at h1
    exact hT h1.2.1
section
variable {n : Nat} {A : List (List Int)}
theorem secO_len : (secO n A).length = (labc n A).toNat := by simp [secO]
theorem secO_at {o : Nat} (h : o < (labc n A).toNat) : (secO n A).getD o [] = lst (frm n A (idxOf (labs n A) o)) := by simp [secO, List.getD, h]
theorem secO_take {o : Nat} (h : o < (labc n A).toNat) : (secO n A).take (o + 1) = (secO n A).take o ++ [lst (frm n A (idxOf (labs n A) o))] := by
  have h2 : o < (secO n A).length := by rw [secO_len]; exact h
  have e := secO_at (A := A) h
  rw [List.take_succ_eq_append_getElem h2]
  simp only [List.getD, List.getElem?_eq_getElem h2, Option.getD_some] at e
  rw [e]
theorem labc_posL (hL : Labs n A n (labs n A) (labc n A)) (h1 : 1 ≤ n) : 1 ≤ labc n A := by
  have h2 := hL.rng 0 (by omega) (by omega)
  have h3 := hL.done 0 (by omega) (by omega) (by omega)
  omega
theorem idx_rng (hL : Labs n A n (labs n A) (labc n A)) {o : Nat} (h : o < (labc n A).toNat) : 0 ≤ idxOf (labs n A) o ∧ idxOf (labs n A) o < n := by
  have hll := hL.len
  obtain ⟨x, hx0, _, hxn, hxe⟩ := hL.hit o (by omega) (by omega)
  obtain ⟨i0, i1, _⟩ := idxOf_mem (xs := labs n A) (a := (o : Int)) (by rw [← hxe]; exact gi_mem hx0 (by omega))
  exact ⟨i0, by omega⟩
theorem lst_len {ms : List (List Int)} (h : 1 ≤ nf ms) : (lst ms).length = ms.length := by
  obtain ⟨f, _, e⟩ := lst_frm h
  rw [e, frm_len]
theorem secO_ok (hk : Like n A) (h1 : 1 ≤ n) : ∀ m ∈ secO n A, IsMan m := fun m hm => by
  have hL := labs_all (hk.sym fun m h => h) (by have := hk.n400; omega)
  obtain ⟨o, ho, rfl⟩ := List.mem_map.1 hm
  have hman := frm_man hk (idx_rng hL (List.mem_range.1 ho))
  obtain ⟨f, hf, e⟩ := lst_frm (ms := frm n A (idxOf (labs n A) o)) (by have := hman.m0.f2; omega)
  rw [e]
  exact form_man hman hf
theorem idxM_of {a : List (List Int)} {mss : List (List (List Int))} {k : Nat} (h : idxM (fun m => decide (m = a)) mss k) (ha : a ∈ mss) : k < mss.length ∧ k = mss.idxOf a := by
  obtain ⟨h1, h2, h3⟩ := h
  obtain ⟨j, hj, e⟩ := List.getElem_of_mem ha
  have hkj : k ≤ j := by
    apply Nat.le_of_not_lt
    intro hlt
    have := h2 j hlt
    rw [show mss.getD j [] = a by simp [List.getD, hj, e]] at this
    simp at this
  have hk : k < mss.length := by omega
  have h4 : mss[k] = a := by
    have := of_decide_eq_true (h3 hk)
    simpa [List.getD, hk] using this
  refine ⟨hk, ?_⟩
  symm
  apply Nat.le_antisymm
  · apply Nat.le_of_not_lt
    intro hlt
    have h6 := List.not_of_lt_findIdx (p := (· == a)) hlt
    simp [h4] at h6
  · apply Nat.le_of_not_lt
    intro hlt
    have hm := List.getElem_idxOf (List.idxOf_lt_length_of_mem ha)
    have h5 := h2 _ hlt
    rw [show mss.getD (mss.idxOf a) [] = a by simp [List.getD, List.idxOf_lt_length_of_mem ha]] at h5
    simp at h5
theorem secF_le : (secF n A).length ≤ (labc n A).toNat := by
  rw [← secO_len]
  exact List.Nodup.length_le_of_subset (fmsM_nodup _) fun a ha => ((fmsM_ok _).2 a).1 ha
theorem zfill_set {xs : List Int} {t : Nat} (h : t < xs.length) : (xs.take t ++ List.replicate (xs.length - t) 0).set t (gi xs t) = xs.take (t + 1) ++ List.replicate (xs.length - (t + 1)) 0 := by
  have e : xs.length - t = (xs.length - (t + 1)) + 1 := by omega
  rw [take_gi h, List.set_append_right _ _ (by simp; omega), e, List.replicate_succ]
  simp [List.length_take, Nat.min_eq_left (Nat.le_of_lt h)]
end
end Go.Mem
namespace Go.Proofs.YtablpijnjkncfaaGreat
open Go.Mem Go.RowKit
set_option linter.unusedVariables false
set_option linter.unusedSimpArgs false

set_option maxHeartbeats 16000000 in
set_option maxRecDepth 100000 in
theorem sectionForms_any (v : Value) (pv : Addr) (ms : List (List Int)) (i k : Int) (w : World) (hv : RL w v ms) (hxv : w.cell? pv = some v) (hm : IsMan ms) (hi : 0 ≤ i ∧ i ≤ k ∧ k < ms.length) :
    Ret Tryz.prog 62 #[.pointer (some pv), .int .i64 i, .int .i64 k] w fun r w' => ∃ x y us, r = .tuple #[x, y] ∧ Own w' w.heap.size 26 x us ∧ Els w' 32 2 us (secF (nf ms) ((ms.take (k + 1).toNat).drop i.toNat)) ∧
      OI w' w.heap.size 2 y (secK (nf ms) ((ms.take (k + 1).toNat).drop i.toNat)) ∧ Below w.heap.size w w' := by
  have shv := hv.sv
  have r5 := hm.m0.r5
  have r1 := hm.m0.r1
  have f4 := hm.m0.f400
  have f2 := hm.m0.f2
  have hlk : Like (nf ms) ((ms.take (k + 1).toNat).drop i.toNat) := (hm.like.take (by omega)).drop (by simp; omega)
  refine enter3 85 Tryz.func62 rfl Tryz.ntmps62 rfl (fun fr => ?_)
  refine go ?_
  obtain ⟨vsr, gr1, gr2, _⟩ := hv.out
  refine s_p (wn rfl) rfl (y_cut rfl rfl rfl gr1 (by omega) (by omega) (by omega)) ?_
  have hrl := hv.cut (l := i.toNat) (r := (k + 1).toNat) (by omega) (by omega)
  generalize (ms.take (k + 1).toNat).drop i.toNat = A at *
  generalize cut v i.toNat (k + 1).toNat = cv at *
  have sv2 := hrl.sv
  have hA5 := hlk.r5
  have hA1 := hlk.r1
  have hsym : Sym (nf ms) A := hlk.sym (fun m h => h)
  have hL := labs_all hsym (by omega)
  have hc0 := hL.c0
  have hll := hL.len
  have hm1 := labc_posL hL (by omega)
  have hman := secO_ok hlk (by omega)
  refine go ?_
  refine s_call1 (wn rfl) rfl rfl (flags_any _ _ _ _ hxv hv r1) ?_
  rintro _ _ ⟨rfl, rfl⟩
  refine go ?_
  refine s_call2 (wn rfl) rfl rfl rfl (orbitLabels_any _ _ _ _ hrl hsym (by omega) (by omega)) ?_
  rintro _ wA ⟨lb, rfl, hx, hbA⟩
  have hrlA := hrl.below hbA
  have sx := hx.sv
  have scx := sx.le
  have zA := hbA.size
  obtain ⟨m, hmm⟩ : ∃ m : Nat, labc (nf ms) A = m := ⟨_, (Int.toNat_of_nonneg hc0.1).symm⟩
  have hmn : (labc (nf ms) A).toNat = m := by omega
  have hso := secO_len (n := nf ms) (A := A)
  rw [hmm]
  refine go ?_
  refine s_makeE (B := wA.heap.size) (wn rfl) rfl rfl rfl (by omega) (by omega) (Nat.le_refl _) (fun x wB hX hgB _ => ?_)
  have hbB := below_of_grownBy hgB
  have zB := hbB.size
  rw [show ((m : Int)).toNat = m by omega] at hX
  refine go ?_
  refine s_allocC (B := wA.heap.size) (wn rfl) rfl zB (fun wC p11 h11 hgC hpC => ?_)
  have hbC := hbB.trans ((below_of_grownBy hgC).mono zB)
  have hXC := hX.below (below_of_grownBy hgC)
  have zC := hbC.size
  refine go ?_
  refine s_storeFld (wn rfl) rfl rfl hXC.sv.one h11 (fun wD h11D hgD => ?_)
  have hbD := hbC.trans (h11.below_of hgD zC)
  have hXD := hXC.kept hgD (.inr (hXC.apart_boxE h11 (by decide)))
  clear hX hXC h11
  refine go ?_
  refine w_loop (fun kk fr w' => ∃ (o : Nat) (vs : List Value), kk = m - o ∧ o ≤ m ∧ fr 8 = cv ∧ fr 9 = lb ∧ fr 10 = .int .i64 m ∧ fr 11 = .pointer (some p11) ∧ fr 37 = .int .i64 m ∧ fr 38 = .int .i64 o ∧
      vs.length = m ∧ Own w' wA.heap.size 26 x vs ∧ Els w' 32 2 (vs.take o) ((secO (nf ms) A).take o) ∧ Bx w' wA.heap.size p11 43 x ∧ Below wA.heap.size wA w') m
    ⟨0, _, rfl, Nat.zero_le _, rfl, rfl, rfl, rfl, rfl, rfl, by simp, hXD, Els.nil _ _ _, h11D, hbD⟩ ?_
  clear hXD h11D
  rintro kk fr w1 ⟨o, vs, rfl, ho, f8, f9, f10, f11, f37, f38, hvl, hX, hE, h11, hb⟩
  have hrl1 := hrlA.below hb
  have hx1 := hx.below hb
  have z1 := hb.size
  refine know (t := 8) f8 ?_; refine know (t := 9) f9 ?_; refine know (t := 10) f10 ?_; refine know (t := 11) f11 ?_; refine know (t := 37) f37 ?_; refine know (t := 38) f38 ?_
  refine go ?_
  refine cond_dec rfl (fun hlt => ?_) (fun hge => ?_)
  · have hom : o < (labc (nf ms) A).toNat := by omega
    obtain ⟨i0, i1⟩ := idx_rng hL hom
    have hfm := frm_man hlk ⟨i0, i1⟩
    have hc11 := h11.cell
    have sX := hX.sv
    rw [hvl] at sX
    refine go ?_
    refine region_hS (fun w' => w'.cell? p11 = some x) mixed (fun w2 cr => ?_)
    have cr0 := cr
    replace hrl1 := hrl1.below cr
    replace hx1 := hx1.below cr
    replace hc11 := cell_below hc11 cr
    refine h_p 0 hc11 ?_ (hrun := fun w' h => yl)
    refine h_p 1 hc11 ?_ (hrun := fun w' h => yl)
    refine h_p 2 hc11 ?_ (hrun := fun w' h => yl)
    refine h_p 3 hc11 ?_ (hrun := fun w' h => yl)
    refine h_p 4 hc11 ?_ (hrun := fun w' h => yl)
    refine h_one 5 ?_
    refine s_call2 (wn rfl) rfl rfl rfl (Index_any _ _ _ _ hx1.il) ?_
    rintro _ _ ⟨rfl, rfl⟩
    refine w_nil ?_
    refine h_on ⟨hc11, ?_⟩
    refine h_one 6 ?_
    refine s_call2 (wn rfl) rfl rfl rfl (formFrom_any _ _ _ _ _ hrl1 hlk.syst ⟨i0, i1⟩ hA1 (by omega) (by omega)) ?_
    rintro _ w3 ⟨x3, rfl, ho3, hb3⟩
    have cr3 := cr.trans (hb3.mono cr.size)
    replace hc11 := cell_below hc11 hb3
    refine w_nil ?_
    refine h_on ⟨hc11, ?_⟩
    refine h_one 7 ?_
    refine s_call1 (wn rfl) rfl rfl (leastForm_any _ _ _ ho3.rl hfm) ?_
    rintro _ w4 ⟨x4, rfl, ho4, hb4⟩
    have cr4 := cr3.trans (hb4.mono cr3.size)
    replace hc11 := cell_below hc11 hb4
    refine w_nil ?_
    refine h_on ⟨hc11, ?_⟩
    have hX4 := hX.below cr4
    have hE4 := hE.below cr4
    have h114 := h11.below cr4
    refine h_p 8 hc11 ?_ (hrun := fun w' h => y_idxSE rfl rfl sX (by omega) (by omega))
    rw [show ((o : Int)).toNat = o by omega]
    refine h_one 9 ?_
    refine s_storeE (wn rfl) rfl rfl ho4.sv.one hX4 (by omega) (fun w5 hX5 hg5 => ?_)
    have h115 := h114.kept hg5 (hX4.apart_boxE h114 (by decide))
    have hE5 := (hE4.kept hX4 (by decide) (by decide) hg5).app (Els.single (ho4.kept_type hX4 (by decide) (by decide) hg5))
    have hb5 := (hb.trans (cr4.mono z1)).trans (grownBy_below hg5 (by have := cr4.size; omega) (fun g hg => (hX4.lt g hg).1))
    refine w_nil ?_
    refine h_on ⟨h115.cell, ?_⟩
    refine h_nil ?_
    refine go ?_
    refine ⟨m - (o + 1), by omega, o + 1, vs.set o x4, rfl, by omega, rfl, rfl, rfl, rfl, rfl, rfl, by simp [hvl], hX5, ?_, h115, hb5⟩
    rw [secO_take hom]
    have e : (vs.set o x4).take (o + 1) = vs.take o ++ [x4] := by
      rw [List.take_succ_eq_append_getElem (by simp; omega), List.take_set_of_le (Nat.le_refl _)]
      simp
    rw [e]
    exact hE5
  obtain rfl : o = m := by omega
  rw [List.take_of_length_le (by omega), List.take_of_length_le (by omega)] at hE
  have hc11 := h11.cell
  -- the forms sorted, each once
  refine go ?_
  refine s_call1 (wn rfl) rfl rfl (CloneM_any _ _ _ _ hX hE.one (by omega)) ?_
  rintro cl w2 ⟨hcl, hb2⟩
  have hE2 := hE.below hb2
  have hX2 := hX.below hb2
  have h112 := h11.below hb2
  refine go ?_
  refine s_call1 (wn rfl) rfl rfl (sortForms_any cl vs _ _ _ hcl hE2 (fun a ha => (hman a ha).m0.r1) (by intro e; rw [e] at hvl; simp at hvl; omega) (by omega)) ?_
  rintro so w3 ⟨us, hso3, hEs, hg3⟩
  have hb3 : Below w1.heap.size w1 w3 := hb2.trans (grownBy_below hg3 hb2.size (fun g hg => (hcl.lt g hg).1))
  have hX3 := hX.below hb3
  have hE3 := hE.below hb3
  have h113 := h11.below hb3
  have hlb3 := hx1.below hb3
  have hbA3 := hb.trans (hb3.mono z1)
  have z3 := hbA3.size
  have sso := hso3.sv
  have hul := hEs.len
  have hFl := secF_le (n := nf ms) (A := A)
  have hsF : fmsM (secO (nf ms) A) = secF (nf ms) A := rfl
  rw [hsF] at hEs hul
  clear hX hE h11 hX2 hE2 h112 hcl hg3 hx1 hrl1 hc11
  have hc113 := h113.cell
  -- which form each flag's is
  refine go ?_
  refine s_makeI (B := w3.heap.size) (wn rfl) rfl rfl rfl (by omega) (by omega) (Nat.le_refl _) (fun ky w4 hk4 sk hg4 _ => ?_)
  have hb4 := below_of_grownBy hg4
  have hkl : (secK (nf ms) A).length = nf ms := by simp [secK, hll]
  rw [hll, show ((nf ms : Int)).toNat = nf ms by omega] at hk4
  refine go ?_
  refine w_loop (fun kk fr w' => ∃ (t : Nat), kk = nf ms - t ∧ t ≤ nf ms ∧ fr 9 = lb ∧ fr 11 = .pointer (some p11) ∧ fr 13 = so ∧ fr 14 = ky ∧ fr 57 = lb ∧ fr 58 = .int .i64 (nf ms) ∧ fr 59 = .int .i64 t ∧
      OI w' w3.heap.size 2 ky ((secK (nf ms) A).take t ++ List.replicate (nf ms - t) 0) ∧ Below w3.heap.size w3 w') (nf ms)
    ⟨0, rfl, Nat.zero_le _, rfl, rfl, rfl, rfl, rfl, by show Value.int _ _ = _; rw [hll], rfl, by simpa using hk4, hb4⟩ ?_
  rintro kk fr w5 ⟨t, rfl, ht, f9, f11, f13, f14, f57, f58, f59, hky, hb5⟩
  have hlb5 := hlb3.below hb5
  have sky := hky.sv
  have skl : ((secK (nf ms) A).take t ++ List.replicate (nf ms - t) 0).length = nf ms := by simp [hkl]; omega
  refine know (t := 9) f9 ?_; refine know (t := 11) f11 ?_; refine know (t := 13) f13 ?_; refine know (t := 14) f14 ?_; refine know (t := 57) f57 ?_; refine know (t := 58) f58 ?_; refine know (t := 59) f59 ?_
  refine go ?_
  refine cond_dec rfl (fun hlt => ?_) (fun hge => ?_)
  · have hgl := hL.rng t (by omega) (by omega)
    have hgd := hL.done t (by omega) (by omega) (by omega)
    refine go ?_
    refine s_allocC (B := w3.heap.size) (wn rfl) rfl hb5.size (fun w6 p16 h16 hg6 hp6 => ?_)
    have hb6 := below_of_grownBy hg6
    have hky6 := hky.below hb6
    have hb56 := hb5.trans (hb6.mono hb5.size)
    refine go ?_
    refine s_storeFld (wn rfl) rfl rfl rfl h16 (fun w7 h167 hg7 => ?_)
    have hky7 : OI w7 w3.heap.size 2 ky _ := ⟨hky6.own.kept hg7 (.inr (fun e => by
      have h1 := (hky.own.lt _ e).2
      omega))⟩
    have hb7 := hb56.trans (h16.below_of hg7 hb56.size)
    have hc16 := h167.cell
    have hc11 := cell_below hc113 hb7
    have hso7 := hso3.below hb7
    have hEs7 := hEs.below hb7
    have hX7 := hX3.below hb7
    have hE7 := hE3.below hb7
    refine go ?_
    refine s_p (wn rfl) rfl (y_fn2 rfl rfl) ?_
    refine go ?_
    refine s_call2 (wn rfl) rfl rfl rfl (IndexFuncM_any 106 _ (fun m' => decide (m' = (secO (nf ms) A).getD (gi (labs (nf ms) A) t).toNat [])) so _ _ _ _ hso7 hEs7
      (fun w' u m' hbw hin hu => sectionForms1_any u m' p11 p16 x _ _ _ _ w' hu (cell_below hc11 hbw) (cell_below hc16 hbw) (hX7.below hbw) (hE7.below hbw) ⟨hgd, by rw [hso]; omega⟩)) ?_
    rintro _ w8 ⟨⟨kx, hkx, rfl⟩, hb8⟩
    have hin : (secO (nf ms) A).getD (gi (labs (nf ms) A) t).toNat [] ∈ secF (nf ms) A := by
      refine ((fmsM_ok (secO (nf ms) A)).2 _).2 ?_
      have h2 : (gi (labs (nf ms) A) t).toNat < (secO (nf ms) A).length := by rw [hso]; omega
      simp [List.getD, h2]
    obtain ⟨hk1, hk2⟩ := idxM_of hkx hin
    rw [if_pos hk1]
    have hky8 := hky7.below hb8
    have hb78 := hb7.trans (hb8.mono hb7.size)
    refine go ?_
    refine s_storeI (wn rfl) rfl rfl hky8 (by omega) (by omega) (fun w9 hky9 hg9 => ?_)
    have hb9 := hb78.trans (hky8.below_of hg9 hb78.size)
    have egk : gi (secK (nf ms) A) t = (kx : Int) := by
      rw [hk2]
      unfold secK
      rw [gi_map (by omega) (by rw [hll]; omega)]
    have ez := zfill_set (xs := secK (nf ms) A) (t := t) (by omega)
    rw [hkl, egk] at ez
    unfold seti at hky9
    rw [show ((t : Int)).toNat = t by omega, ez] at hky9
    refine go ?_
    exact ⟨nf ms - (t + 1), by omega, t + 1, rfl, by omega, rfl, rfl, rfl, rfl, rfl, rfl, rfl, hky9, hb9⟩
  obtain rfl : t = nf ms := by omega
  rw [Nat.sub_self, List.replicate_zero, List.append_nil, List.take_of_length_le (by omega)] at hky
  have hso5 := hso3.below hb5
  have hEs5 := hEs.below hb5
  have z5 := hb5.size
  -- their clones
  refine go ?_
  refine w_loop (fun kk fr w' => ∃ (j : Nat) (ou : Value) (vs' : List Value), kk = us.length - j ∧ j ≤ us.length ∧ fr 14 = ky ∧ fr 17 = ou ∧ fr 71 = so ∧ fr 72 = .int .i64 us.length ∧ fr 73 = .int .i64 j ∧
      Own w' w5.heap.size 26 ou vs' ∧ Els w' 32 2 vs' ((secF (nf ms) A).take j) ∧ Below w5.heap.size w5 w') us.length
    ⟨0, _, [], rfl, Nat.zero_le _, rfl, rfl, rfl, rfl, rfl, Own.nil _ _ _, Els.nil _ _ _, Below.refl _ _⟩ ?_
  rintro kk fr w6 ⟨j, ou, vs', rfl, hj, f14, f17, f71, f72, f73, hou, hEo, hb6⟩
  have hso6 := hso5.below hb6
  have hEs6 := hEs5.below hb6
  have hel := hEo.len
  rw [List.length_take] at hel
  refine know (t := 14) f14 ?_; refine know (t := 17) f17 ?_; refine know (t := 71) f71 ?_; refine know (t := 72) f72 ?_; refine know (t := 73) f73 ?_
  refine go ?_
  refine cond_dec rfl (fun hlt => ?_) (fun hge => ?_)
  · have hjl : j < us.length := by omega
    have hjF : j < (secF (nf ms) A).length := by omega
    obtain ⟨_, _, hu⟩ := hEs6.row j (us.getD j undef) ((secF (nf ms) A).getD j []) (by simp [List.getD, hjl]) (by simp [List.getD, hjF])
    have hcu : w6.cell? (addrOf so ((j : Int)).toNat) = some (us.getD j undef) := by
      rw [show ((j : Int)).toNat = j by omega]
      exact hso6.rd.cell (by simp [List.getD, hjl])
    have hinF : (secF (nf ms) A).getD j [] ∈ secF (nf ms) A := by simp [List.getD, hjF]
    have hmj := hman _ (((fmsM_ok (secO (nf ms) A)).2 _).1 hinF)
    have hrj := hu.rl
    have suj := hrj.sv
    refine go ?_
    refine s_p (wn rfl) rfl (y_idxSE rfl rfl sso (by omega) (by omega)) ?_
    refine go ?_
    refine s_alloc (B := w6.heap.size) (wn rfl) rfl (Nat.le_refl _) (fun w7 p19 h19 hg7 hp7 => ?_)
    have hb7 := below_of_grownBy hg7
    refine go ?_
    refine s_storeBox (wn rfl) rfl rfl hrj.sv.one h19 (fun w8 h198 hg8 => ?_)
    have hb8 := hb7.trans (h19.below_of hg8 hb7.size)
    have hc19 := h198.cell
    have hrj8 := hrj.below hb8
    refine go ?_
    refine s_call1 (wn rfl) rfl rfl (cloneManiplex_any _ _ _ hrj8 (by have := hmj.m0.r5; omega) (fun xs hxs => by obtain ⟨q, hq, rfl⟩ := mem_gr hxs; have := (hmj.m0.row q hq).1; have := hmj.m0.f400; omega)) ?_
    rintro _ w9 ⟨x9, rfl, ho9, hb9⟩
    have hb89 := hb8.trans (hb9.mono hb8.size)
    refine go ?_
    refine s_buildE (B := w9.heap.size) [x9] (wn rfl) rfl rfl (by decide) rfl (by simpa using ho9.sv.one) (Nat.le_refl _) (fun tb w10 ht10 hg10 _ => ?_)
    have hb10 := hb89.trans ((below_of_grownBy hg10).mono hb89.size)
    have ho10 := ho9.below (below_of_grownBy hg10)
    have hou10 := hou.below hb10
    have hEo10 := hEo.below hb10
    refine go ?_
    refine s_appendE (wn rfl) rfl rfl rfl hou10 ht10.rd (by simpa using ho9.sv.one) (by simp; omega) (by have := hb6.size; have := hb10.size; omega) (fun ou' w11 hou11 hg11 _ => ?_)
    have hE11 := (hEo10.kept hou10 (by decide) (by decide) hg11).app (Els.single (ho10.kept_type hou10 (by decide) (by decide) hg11))
    have hb6n := hb6.trans (hb10.mono hb6.size)
    have hb11 := hb6n.trans (grownBy_below hg11 hb6n.size (fun g hg => (hou10.lt g hg).1))
    refine go ?_
    refine ⟨us.length - (j + 1), by omega, j + 1, ou', _, rfl, by omega, rfl, rfl, rfl, rfl, rfl, hou11, ?_, hb11⟩
    rw [List.take_succ_eq_append_getElem hjF]
    have e : (secF (nf ms) A).getD j [] = (secF (nf ms) A)[j] := by simp [List.getD, hjF]
    rw [← e]
    exact hE11
  obtain rfl : j = us.length := by omega
  rw [List.take_of_length_le (by omega)] at hEo
  have hky6 := hky.below hb6
  have hbw := (hbA.trans (hbA3.mono zA)).trans ((hb5.trans (hb6.mono z5)).mono (by omega))
  refine go ?_
  exact end_two Tryz.results62 rfl rfl ⟨_, _, _, rfl, hou.mono (by omega), hEo, hky6.mono (by omega), hbw⟩
end Go.Proofs.YtablpijnjkncfaaGreat

/- Contracts: HasEqualVertexFigures and SectionKinds (the program's side). -/
namespace Go.Mem
open Go.RowKit
set_option linter.unusedVariables false
/-- 0 ≤ i ≤ k ≤ the greatest rank -/
def SecOk (ms : List (List Int)) (i k : Int) : Prop := 0 ≤ i ∧ i ≤ k ∧ k < ms.length
instance (ms : List (List Int)) (i k : Int) : Decidable (SecOk ms i k) := inferInstanceAs (Decidable (_ ∧ _))
def secA (ms : List (List Int)) (i k : Int) : List (List Int) := (ms.take (k + 1).toNat).drop i.toNat
noncomputable def skL (ms : List (List Int)) (i k : Int) : List Int := if IsMan ms ∧ SecOk ms i k then secK (nf ms) (secA ms i k) else []
noncomputable def skC (ms : List (List Int)) (i k : Int) : Int := if IsMan ms then (if SecOk ms i k then 0 else 2) else 1
noncomputable def heB (ms : List (List Int)) : Bool := decide (IsMan ms ∧ ms.length ≠ 1 ∧ (secF (nf ms) (secA ms 1 ((ms.length : Int) - 1))).length = 1)
noncomputable def heC (ms : List (List Int)) : Int := if IsMan ms then (if ms.length = 1 then 5 else 0) else 1
section
variable {ms : List (List Int)} {i k : Int}
theorem sk_1 (h : ¬ IsMan ms) : skL ms i k = [] ∧ skC ms i k = 1 := ⟨if_neg fun e => h e.1, if_neg h⟩
theorem sk_2 (hm : IsMan ms) (h : ¬ SecOk ms i k) : skL ms i k = [] ∧ skC ms i k = 2 := ⟨if_neg fun e => h e.2, by unfold skC; rw [if_pos hm, if_neg h]⟩
theorem sk_3 (hm : IsMan ms) (h : SecOk ms i k) : skL ms i k = secK (nf ms) (secA ms i k) ∧ skC ms i k = 0 := ⟨if_pos ⟨hm, h⟩, by unfold skC; rw [if_pos hm, if_pos h]⟩
theorem he_1 (h : ¬ IsMan ms) : heB ms = false ∧ heC ms = 1 := ⟨decide_eq_false fun e => h e.1, if_neg h⟩
theorem he_2 (hm : IsMan ms) (h : ms.length = 1) : heB ms = false ∧ heC ms = 5 := ⟨decide_eq_false fun e => e.2.1 h, by unfold heC; rw [if_pos hm, if_pos h]⟩
theorem he_3 (hm : IsMan ms) (h : ms.length ≠ 1) : heB ms = decide ((secF (nf ms) (secA ms 1 ((ms.length : Int) - 1))).length = 1) ∧ heC ms = 0 := ⟨by unfold heB; rw [decide_eq_decide]; exact ⟨fun e => e.2.2, fun e => ⟨hm, h, e⟩⟩, by unfold heC; rw [if_pos hm, if_neg h]⟩
theorem skL_len (ms : List (List Int)) (i k : Int) : (skL ms i k).length ≤ 400 := by
  unfold skL
  split
  · rename_i h
    have h4 := h.1.m0.f400
    have h5 := h.1.like
    obtain ⟨h1, h2, h3⟩ := h.2
    have hlk : Like (nf ms) (secA ms i k) := (h5.take (by omega)).drop (by simp; omega)
    have hL := (labs_all (hlk.sym fun m h => h) (by omega)).len
    simp [secK, hL]; exact h4
  · simp
end
end Go.Mem
namespace Go.Proofs.YtablpijnjkncfaaGreat
open Go.Mem Go.RowKit
set_option linter.unusedVariables false
set_option linter.unusedSimpArgs false

set_option maxRecDepth 100000 in
theorem areRanks_any (v : Value) (pv : Addr) (ms : List (List Int)) (i k : Int) (w : World) (hv : RL w v ms) (hxv : w.cell? pv = some v) (h5 : ms.length ≤ 5) :
    Ret Tryz.prog 69 #[.pointer (some pv), .int .i64 i, .int .i64 k] w fun r w' => r = .bool (decide (SecOk ms i k)) ∧ w = w' := by
  have shv := hv.sv
  refine enter3 20 Tryz.func69 rfl Tryz.ntmps69 rfl (fun fr => ?_)
  refine go ?_
  refine s_call2 (wn rfl) rfl rfl rfl (hasRank_any _ _ _ _ _ hv hxv h5) ?_
  rintro _ _ ⟨rfl, rfl⟩
  by_cases h1 : 0 ≤ i ∧ i < ms.length
  rotate_left
  · have e : decide (SecOk ms i k) = false := decide_eq_false fun h => h1 ⟨h.1, by have := h.2.1; have := h.2.2; omega⟩
    rw [decide_eq_false h1, e]
    refine go ?_
    exact end_one Tryz.results69 rfl ⟨rfl, rfl⟩
  rw [decide_eq_true h1]
  refine go ?_
  refine s_call2 (wy rfl rfl rfl rfl rfl known) rfl rfl rfl (hasRank_any _ _ _ _ _ hv hxv h5) ?_
  rintro _ _ ⟨rfl, rfl⟩
  by_cases h2 : 0 ≤ k ∧ k < ms.length
  rotate_left
  · have e : decide (SecOk ms i k) = false := decide_eq_false fun h => h2 ⟨by have := h.1; have := h.2.1; omega, h.2.2⟩
    rw [decide_eq_false h2, e]
    refine go ?_
    exact end_one Tryz.results69 rfl ⟨rfl, rfl⟩
  rw [decide_eq_true h2]
  refine go ?_
  exact end_one Tryz.results69 rfl ⟨by congr 1; rw [decide_eq_decide]; exact ⟨fun h => ⟨h1.1, h, h2.2⟩, fun h => h.2.1⟩, rfl⟩

end Go.Proofs.YtablpijnjkncfaaGreat

/- Contracts: the forms of sections (the reference). -/
namespace Go.Mem
open Go.RowKit
set_option linter.unusedVariables false
section
variable {P : Program} {n : Nat} {f : Fm} {w : World} {dst : Option Tmp} {ty : TypeId} {pos : String} {after : Array Edge} {g : Option (Nat × Bool)}
theorem y_cutR2E {x lo hi : Operand} {t e : TypeId} {z : Value} {bytes : Nat} [ht : SliceTy P t e] [he : CellTy P e z bytes] {v : Value} {xss : List (List Int)} {kl kh : IntKind} {l r : Int}
    (hx : lk n f x = some v) (hlo : lk n f lo = some (.int kl l)) (hhi : lk n f hi = some (.int kh r)) (h : RL w v xss) (h0 : 0 ≤ l) (hl : l ≤ r) (hr : r ≤ xss.length) :
    Yld P (evo n f) ⟨dst, .slice t x (some lo) (some hi) none, ty, pos, after, g⟩ w (cut v l.toNat r.toNat) := by
  obtain ⟨vs, h1, h2, _⟩ := h.out
  exact y_cut hx hlo hhi h1 h0 hl (by omega)
end
theorem OM.boxE {w w' : World} {B E B2 : Nat} {T U T2 : TypeId} {v x : Value} {xss : List (List Int)} {p : Addr} (h : OM w B E T U v xss) (k : Bx w B2 p T2 x) (h1 : T ≠ T2) (h2 : U ≠ T2) (hg : w.grownBy w' (some p.block)) : OM w' B E T U v xss := by
  have ap : ∀ {B3 : Nat} {T3 : TypeId} {a : Value} {ws : List Value}, Own w B3 T3 a ws → T3 ≠ T2 → a.ownBlock ≠ some p.block := by
    intro B3 T3 a ws ha hT
    have h1 := k.row
    rcases ha with ⟨rfl, rfl⟩ | ⟨g, off, cap, cur, rfl, hb, hg, _⟩
    · simp [Value.ownBlock]
    · simp only [Value.ownBlock, ne_eq, Option.some.injEq]
      intro e
      rw [← e, hg] at h1
      simp only [Option.some.injEq, Obj.cells.injEq] at h1
      exact hT h1.2.1
  obtain ⟨vs, k1, k2⟩ := h.rws
  exact Rws.om ⟨k2.one, k2.len, fun i a zs ha hz => (k2.row i a zs ha hz).kept hg (.inr (ap (k2.row i a zs ha hz).own h2)), k2.lt, k2.apart⟩ (k1.kept hg (.inr (ap k1 h1)))

theorem insM_at (L : List (List (List Int))) (x : List (List Int)) (q : Nat) (hl : q ≤ L.length) (h1 : ∀ j, j < q → befM (L.getD j []) x = true) (h2 : (decide (q < L.length) && befM (L.getD q []) x) = false) :
    insF befM L x = if (decide (q < L.length) && decide (L.getD q [] = x)) = true then L else L.take q ++ x :: L.drop q := by
  rw [insF_at L x q hl (fun i hi hq => by have := h1 i hq; simpa [List.getD, hi] using this) (fun hi => by simpa [List.getD, hi] using h2)]
  by_cases hq : q < L.length
  · by_cases e : L[q] = x
    · rw [if_pos ⟨hq, e⟩, if_pos (by simp [List.getD, hq, e])]
    · rw [if_neg (fun ⟨_, h⟩ => e h), if_neg (by simp [List.getD, hq, e])]
  · rw [if_neg (fun ⟨h, _⟩ => hq h), if_neg (by simp [hq])]
end Go.Mem
namespace Go.Proofs.YtablpijnjkncfaaGreat
open Go.Mem Go.RowKit
set_option linter.unusedVariables false
set_option linter.unusedSimpArgs false
end Go.Proofs.YtablpijnjkncfaaGreat

/- Contracts: HasEqualVertexFigures and SectionKinds (the reference). -/
namespace Go.Proofs.YtablpijnjkncfaaGreat
open Go.Mem Go.RowKit
set_option linter.unusedVariables false
set_option linter.unusedSimpArgs false
end Go.Proofs.YtablpijnjkncfaaGreat
