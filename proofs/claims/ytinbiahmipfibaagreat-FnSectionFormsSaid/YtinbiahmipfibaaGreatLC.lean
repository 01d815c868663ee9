/- Texts laid together: F100 F101 F102 F103. -/
import Derived.Test.YtinbiahmipfibaaGreatLB
import Derived.Test.YtinbiahmipfibaaGreatF27
import Derived.Test.YtinbiahmipfibaaGreatF43
import Derived.Test.YtinbiahmipfibaaGreatF32
/- Contracts: the forms of sections (the program's side). -/
namespace Go.Mem
open Go.RowKit
set_option linter.unusedVariables false
theorem Own.apart_boxE {w : World} {B B' : Nat} {T T' : TypeId} {v u : Value} {vs : List Value} {p : Addr} (h : Own w B T v vs) (k : Bx w B' p T' u) (hT : T ≠ T') : v.ownBlock ≠ some p.block := by
  have h1 := k.row
  rcases h with ⟨rfl, rfl⟩ | ⟨g, off, cap, cur, rfl, hb, hg, _⟩
  · simp [Value.ownBlock]
  · simp only [Value.ownBlock, ne_eq, Option.some.injEq]
    intro e
    rw [← e, hg] at h1
    simp only [Option.some.injEq, Obj.cells.injEq] at h1
    exact hT h1.2.1
section
variable {n : Nat} {A : List (List Int)}
theorem secO_len : (secO n A).length = (labc n A).toNat := by simp [secO]
theorem secO_at {o : Nat} (h : o < (labc n A).toNat) : (secO n A).getD o [] = lst (frm n A (idxOf (labs n A) o)) := by simp [secO, List.getD, h]
theorem secO_take {o : Nat} (h : o < (labc n A).toNat) : (secO n A).take (o + 1) = (secO n A).take o ++ [lst (frm n A (idxOf (labs n A) o))] := by
  have h2 : o < (secO n A).length := by rw [secO_len]; exact h
  have e := secO_at (A := A) h
  rw [List.take_succ_eq_append_getElem h2]
  simp only [List.getD, List.getElem?_eq_getElem h2, Option.getD_some] at e
  rw [e]
theorem labc_posL (hL : Labs n A n (labs n A) (labc n A)) (h1 : 1 ≤ n) : 1 ≤ labc n A := by
  have h2 := hL.rng 0 (by omega) (by omega)
  have h3 := hL.done 0 (by omega) (by omega) (by omega)
  omega
theorem idx_rng (hL : Labs n A n (labs n A) (labc n A)) {o : Nat} (h : o < (labc n A).toNat) : 0 ≤ idxOf (labs n A) o ∧ idxOf (labs n A) o < n := by
  have hll := hL.len
  obtain ⟨x, hx0, _, hxn, hxe⟩ := hL.hit o (by omega) (by omega)
  obtain ⟨i0, i1, _⟩ := idxOf_mem (xs := labs n A) (a := (o : Int)) (by rw [← hxe]; exact gi_mem hx0 (by omega))
  exact ⟨i0, by omega⟩
theorem lst_len {ms : List (List Int)} (h : 1 ≤ nf ms) : (lst ms).length = ms.length := by
  obtain ⟨f, _, e⟩ := lst_frm h
  rw [e, frm_len]
theorem secO_ok (hk : Like n A) (h1 : 1 ≤ n) : ∀ m ∈ secO n A, IsMan m := fun m hm => by
  have hL := labs_all (hk.sym fun m h => h) (by have := hk.n400; omega)
  obtain ⟨o, ho, rfl⟩ := List.mem_map.1 hm
  have hman := frm_man hk (idx_rng hL (List.mem_range.1 ho))
  obtain ⟨f, hf, e⟩ := lst_frm (ms := frm n A (idxOf (labs n A) o)) (by have := hman.m0.f2; omega)
  rw [e]
  exact form_man hman hf
theorem idxM_of {a : List (List Int)} {mss : List (List (List Int))} {k : Nat} (h : idxM (fun m => decide (m = a)) mss k) (ha : a ∈ mss) : k < mss.length ∧ k = mss.idxOf a := by
  obtain ⟨h1, h2, h3⟩ := h
  obtain ⟨j, hj, e⟩ := List.getElem_of_mem ha
  have hkj : k ≤ j := by
    apply Nat.le_of_not_lt
    intro hlt
    have := h2 j hlt
    rw [show mss.getD j [] = a by simp [List.getD, hj, e]] at this
    simp at this
  have hk : k < mss.length := by omega
  have h4 : mss[k] = a := by
    have := of_decide_eq_true (h3 hk)
    simpa [List.getD, hk] using this
  refine ⟨hk, ?_⟩
  symm
  apply Nat.le_antisymm
  · apply Nat.le_of_not_lt
    intro hlt
    have h6 := List.not_of_lt_findIdx (p := (· == a)) hlt
    simp [h4] at h6
  · apply Nat.le_of_not_lt
    intro hlt
    have hm := List.getElem_idxOf (List.idxOf_lt_length_of_mem ha)
    have h5 := h2 _ hlt
    rw [show mss.getD (mss.idxOf a) [] = a by simp [List.getD, List.idxOf_lt_length_of_mem ha]] at h5
    simp at h5
theorem secF_le : (secF n A).length ≤ (labc n A).toNat := by
  rw [← secO_len]
  exact List.Nodup.length_le_of_subset (fmsM_nodup _) fun a ha => ((fmsM_ok _).2 a).1 ha
theorem zfill_set {xs : List Int} {t : Nat} (h : t < xs.length) : (xs.take t ++ List.replicate (xs.length - t) 0).set t (gi xs t) = xs.take (t + 1) ++ List.replicate (xs.length - (t + 1)) 0 := by
  have e : xs.length - t = (xs.length - (t + 1)) + 1 := by omega
  rw [take_gi h, List.set_append_right _ _ (by simp; omega), e, List.replicate_succ]
  simp [List.length_take, Nat.min_eq_left (Nat.le_of_lt h)]
end
end Go.Mem
namespace Go.Proofs.YtinbiahmipfibaaGreat
open Go.Mem Go.RowKit
set_option linter.unusedVariables false
set_option linter.unusedSimpArgs false

set_option maxHeartbeats 16000000 in
set_option maxRecDepth 100000 in
theorem sectionForms_any (v : Value) (pv : Addr) (ms : List (List Int)) (i k : Int) (w : World) (hv : RL w v ms) (hxv : w.cell? pv = some v) (hm : IsMan ms) (hi : 0 ≤ i ∧ i ≤ k ∧ k < ms.length) :
    Ret Tryz.prog 22 #[.pointer (some pv), .int .i64 i, .int .i64 k] w fun r w' => ∃ x y us, r = .tuple #[x, y] ∧ Own w' w.heap.size 26 x us ∧ Els w' 33 2 us (secF (nf ms) ((ms.take (k + 1).toNat).drop i.toNat)) ∧
      OI w' w.heap.size 2 y (secK (nf ms) ((ms.take (k + 1).toNat).drop i.toNat)) ∧ Below w.heap.size w w' := by
  have shv := hv.sv
  have r5 := hm.m0.r5
  have r1 := hm.m0.r1
  have f4 := hm.m0.f400
  have f2 := hm.m0.f2
  have hlk : Like (nf ms) ((ms.take (k + 1).toNat).drop i.toNat) := (hm.like.take (by omega)).drop (by simp; omega)
  refine enter3 85 Tryz.func22 rfl Tryz.ntmps22 rfl (fun fr => ?_)
  refine go ?_
  obtain ⟨vsr, gr1, gr2, _⟩ := hv.out
  refine s_p (wn rfl) rfl (y_cut rfl rfl rfl gr1 (by omega) (by omega) (by omega)) ?_
  have hrl := hv.cut (l := i.toNat) (r := (k + 1).toNat) (by omega) (by omega)
  generalize (ms.take (k + 1).toNat).drop i.toNat = A at *
  generalize cut v i.toNat (k + 1).toNat = cv at *
  have sv2 := hrl.sv
  have hA5 := hlk.r5
  have hA1 := hlk.r1
  have hsym : Sym (nf ms) A := hlk.sym (fun m h => h)
  have hL := labs_all hsym (by omega)
  have hc0 := hL.c0
  have hll := hL.len
  have hm1 := labc_posL hL (by omega)
  have hman := secO_ok hlk (by omega)
  refine go ?_
  refine s_call1 (wn rfl) rfl rfl (flags_any _ _ _ _ hxv hv r1) ?_
  rintro _ _ ⟨rfl, rfl⟩
  refine go ?_
  refine s_call2 (wn rfl) rfl rfl rfl (orbitLabels_any _ _ _ _ hrl hsym (by omega) (by omega)) ?_
  rintro _ wA ⟨lb, rfl, hx, hbA⟩
  have hrlA := hrl.below hbA
  have sx := hx.sv
  have scx := sx.le
  have zA := hbA.size
  obtain ⟨m, hmm⟩ : ∃ m : Nat, labc (nf ms) A = m := ⟨_, (Int.toNat_of_nonneg hc0.1).symm⟩
  have hmn : (labc (nf ms) A).toNat = m := by omega
  have hso := secO_len (n := nf ms) (A := A)
  rw [hmm]
  refine go ?_
  refine s_makeE (B := wA.heap.size) (wn rfl) rfl rfl rfl (by omega) (by omega) (Nat.le_refl _) (fun x wB hX hgB _ => ?_)
  have hbB := below_of_grownBy hgB
  have zB := hbB.size
  rw [show ((m : Int)).toNat = m by omega] at hX
  refine go ?_
  refine s_allocC (B := wA.heap.size) (wn rfl) rfl zB (fun wC p11 h11 hgC hpC => ?_)
  have hbC := hbB.trans ((below_of_grownBy hgC).mono zB)
  have hXC := hX.below (below_of_grownBy hgC)
  have zC := hbC.size
  refine go ?_
  refine s_storeFld (wn rfl) rfl rfl hXC.sv.one h11 (fun wD h11D hgD => ?_)
  have hbD := hbC.trans (h11.below_of hgD zC)
  have hXD := hXC.kept hgD (.inr (hXC.apart_boxE h11 (by decide)))
  clear hX hXC h11
  refine go ?_
  refine w_loop (fun kk fr w' => ∃ (o : Nat) (vs : List Value), kk = m - o ∧ o ≤ m ∧ fr 8 = cv ∧ fr 9 = lb ∧ fr 10 = .int .i64 m ∧ fr 11 = .pointer (some p11) ∧ fr 37 = .int .i64 m ∧ fr 38 = .int .i64 o ∧
      vs.length = m ∧ Own w' wA.heap.size 26 x vs ∧ Els w' 33 2 (vs.take o) ((secO (nf ms) A).take o) ∧ Bx w' wA.heap.size p11 29 x ∧ Below wA.heap.size wA w') m
    ⟨0, _, rfl, Nat.zero_le _, rfl, rfl, rfl, rfl, rfl, rfl, by simp, hXD, Els.nil _ _ _, h11D, hbD⟩ ?_
  clear hXD h11D
  rintro kk fr w1 ⟨o, vs, rfl, ho, f8, f9, f10, f11, f37, f38, hvl, hX, hE, h11, hb⟩
  have hrl1 := hrlA.below hb
  have hx1 := hx.below hb
  have z1 := hb.size
  refine know (t := 8) f8 ?_; refine know (t := 9) f9 ?_; refine know (t := 10) f10 ?_; refine know (t := 11) f11 ?_; refine know (t := 37) f37 ?_; refine know (t := 38) f38 ?_
  refine go ?_
  refine cond_dec rfl (fun hlt => ?_) (fun hge => ?_)
  · have hom : o < (labc (nf ms) A).toNat := by omega
    obtain ⟨i0, i1⟩ := idx_rng hL hom
    have hfm := frm_man hlk ⟨i0, i1⟩
    have hc11 := h11.cell
    have sX := hX.sv
    rw [hvl] at sX
    refine go ?_
    refine region_hS (fun w' => w'.cell? p11 = some x) mixed (fun w2 cr => ?_)
    have cr0 := cr
    replace hrl1 := hrl1.below cr
    replace hx1 := hx1.below cr
    replace hc11 := cell_below hc11 cr
    refine h_p 0 hc11 ?_ (hrun := fun w' h => yl)
    refine h_p 1 hc11 ?_ (hrun := fun w' h => yl)
    refine h_p 2 hc11 ?_ (hrun := fun w' h => yl)
    refine h_p 3 hc11 ?_ (hrun := fun w' h => yl)
    refine h_p 4 hc11 ?_ (hrun := fun w' h => yl)
    refine h_one 5 ?_
    refine s_call2 (wn rfl) rfl rfl rfl (Index_any _ _ _ _ hx1.il) ?_
    rintro _ _ ⟨rfl, rfl⟩
    refine w_nil ?_
    refine h_on ⟨hc11, ?_⟩
    refine h_one 6 ?_
    refine s_call2 (wn rfl) rfl rfl rfl (formFrom_any _ _ _ _ _ hrl1 hlk.syst ⟨i0, i1⟩ hA1 (by omega) (by omega)) ?_
    rintro _ w3 ⟨x3, rfl, ho3, hb3⟩
    have cr3 := cr.trans (hb3.mono cr.size)
    replace hc11 := cell_below hc11 hb3
    refine w_nil ?_
    refine h_on ⟨hc11, ?_⟩
    refine h_one 7 ?_
    refine s_call1 (wn rfl) rfl rfl (leastForm_any _ _ _ ho3.rl hfm) ?_
    rintro _ w4 ⟨x4, rfl, ho4, hb4⟩
    have cr4 := cr3.trans (hb4.mono cr3.size)
    replace hc11 := cell_below hc11 hb4
    refine w_nil ?_
    refine h_on ⟨hc11, ?_⟩
    have hX4 := hX.below cr4
    have hE4 := hE.below cr4
    have h114 := h11.below cr4
    refine h_p 8 hc11 ?_ (hrun := fun w' h => y_idxSE rfl rfl sX (by omega) (by omega))
    rw [show ((o : Int)).toNat = o by omega]
    refine h_one 9 ?_
    refine s_storeE (wn rfl) rfl rfl ho4.sv.one hX4 (by omega) (fun w5 hX5 hg5 => ?_)
    have h115 := h114.kept hg5 (hX4.apart_boxE h114 (by decide))
    have hE5 := (hE4.kept hX4 (by decide) (by decide) hg5).app (Els.single (ho4.kept_type hX4 (by decide) (by decide) hg5))
    have hb5 := (hb.trans (cr4.mono z1)).trans (grownBy_below hg5 (by have := cr4.size; omega) (fun g hg => (hX4.lt g hg).1))
    refine w_nil ?_
    refine h_on ⟨h115.cell, ?_⟩
    refine h_nil ?_
    refine go ?_
    refine ⟨m - (o + 1), by omega, o + 1, vs.set o x4, rfl, by omega, rfl, rfl, rfl, rfl, rfl, rfl, by simp [hvl], hX5, ?_, h115, hb5⟩
    rw [secO_take hom]
    have e : (vs.set o x4).take (o + 1) = vs.take o ++ [x4] := by
      rw [List.take_succ_eq_append_getElem (by simp; omega), List.take_set_of_le (Nat.le_refl _)]
      simp
    rw [e]
    exact hE5
  obtain rfl : o = m := by omega
  rw [List.take_of_length_le (by omega), List.take_of_length_le (by omega)] at hE
  have hc11 := h11.cell
  -- the forms sorted, each once
  refine go ?_
  refine s_call1 (wn rfl) rfl rfl (CloneM_any _ _ _ _ hX hE.one (by omega)) ?_
  rintro cl w2 ⟨hcl, hb2⟩
  have hE2 := hE.below hb2
  have hX2 := hX.below hb2
  have h112 := h11.below hb2
  refine go ?_
  refine s_call1 (wn rfl) rfl rfl (sortForms_any cl vs _ _ _ hcl hE2 (fun a ha => (hman a ha).m0.r1) (by intro e; rw [e] at hvl; simp at hvl; omega) (by omega)) ?_
  rintro so w3 ⟨us, hso3, hEs, hg3⟩
  have hb3 : Below w1.heap.size w1 w3 := hb2.trans (grownBy_below hg3 hb2.size (fun g hg => (hcl.lt g hg).1))
  have hX3 := hX.below hb3
  have hE3 := hE.below hb3
  have h113 := h11.below hb3
  have hlb3 := hx1.below hb3
  have hbA3 := hb.trans (hb3.mono z1)
  have z3 := hbA3.size
  have sso := hso3.sv
  have hul := hEs.len
  have hFl := secF_le (n := nf ms) (A := A)
  have hsF : fmsM (secO (nf ms) A) = secF (nf ms) A := rfl
  rw [hsF] at hEs hul
  clear hX hE h11 hX2 hE2 h112 hcl hg3 hx1 hrl1 hc11
  have hc113 := h113.cell
  -- which form each flag's is
  refine go ?_
  refine s_makeI (B := w3.heap.size) (wn rfl) rfl rfl rfl (by omega) (by omega) (Nat.le_refl _) (fun ky w4 hk4 sk hg4 _ => ?_)
  have hb4 := below_of_grownBy hg4
  have hkl : (secK (nf ms) A).length = nf ms := by simp [secK, hll]
  rw [hll, show ((nf ms : Int)).toNat = nf ms by omega] at hk4
  refine go ?_
  refine w_loop (fun kk fr w' => ∃ (t : Nat), kk = nf ms - t ∧ t ≤ nf ms ∧ fr 9 = lb ∧ fr 11 = .pointer (some p11) ∧ fr 13 = so ∧ fr 14 = ky ∧ fr 57 = lb ∧ fr 58 = .int .i64 (nf ms) ∧ fr 59 = .int .i64 t ∧
      OI w' w3.heap.size 2 ky ((secK (nf ms) A).take t ++ List.replicate (nf ms - t) 0) ∧ Below w3.heap.size w3 w') (nf ms)
    ⟨0, rfl, Nat.zero_le _, rfl, rfl, rfl, rfl, rfl, by show Value.int _ _ = _; rw [hll], rfl, by simpa using hk4, hb4⟩ ?_
  rintro kk fr w5 ⟨t, rfl, ht, f9, f11, f13, f14, f57, f58, f59, hky, hb5⟩
  have hlb5 := hlb3.below hb5
  have sky := hky.sv
  have skl : ((secK (nf ms) A).take t ++ List.replicate (nf ms - t) 0).length = nf ms := by simp [hkl]; omega
  refine know (t := 9) f9 ?_; refine know (t := 11) f11 ?_; refine know (t := 13) f13 ?_; refine know (t := 14) f14 ?_; refine know (t := 57) f57 ?_; refine know (t := 58) f58 ?_; refine know (t := 59) f59 ?_
  refine go ?_
  refine cond_dec rfl (fun hlt => ?_) (fun hge => ?_)
  · have hgl := hL.rng t (by omega) (by omega)
    have hgd := hL.done t (by omega) (by omega) (by omega)
    refine go ?_
    refine s_allocC (B := w3.heap.size) (wn rfl) rfl hb5.size (fun w6 p16 h16 hg6 hp6 => ?_)
    have hb6 := below_of_grownBy hg6
    have hky6 := hky.below hb6
    have hb56 := hb5.trans (hb6.mono hb5.size)
    refine go ?_
    refine s_storeFld (wn rfl) rfl rfl rfl h16 (fun w7 h167 hg7 => ?_)
    have hky7 : OI w7 w3.heap.size 2 ky _ := ⟨hky6.own.kept hg7 (.inr (fun e => by
      have h1 := (hky.own.lt _ e).2
      omega))⟩
    have hb7 := hb56.trans (h16.below_of hg7 hb56.size)
    have hc16 := h167.cell
    have hc11 := cell_below hc113 hb7
    have hso7 := hso3.below hb7
    have hEs7 := hEs.below hb7
    have hX7 := hX3.below hb7
    have hE7 := hE3.below hb7
    refine go ?_
    refine s_p (wn rfl) rfl (y_fn2 rfl rfl) ?_
    refine go ?_
    refine s_call2 (wn rfl) rfl rfl rfl (IndexFuncM_any 47 _ (fun m' => decide (m' = (secO (nf ms) A).getD (gi (labs (nf ms) A) t).toNat [])) so _ _ _ _ hso7 hEs7
      (fun w' u m' hbw hin hu => sectionForms1_any u m' p11 p16 x _ _ _ _ w' hu (cell_below hc11 hbw) (cell_below hc16 hbw) (hX7.below hbw) (hE7.below hbw) ⟨hgd, by rw [hso]; omega⟩)) ?_
    rintro _ w8 ⟨⟨kx, hkx, rfl⟩, hb8⟩
    have hin : (secO (nf ms) A).getD (gi (labs (nf ms) A) t).toNat [] ∈ secF (nf ms) A := by
      refine ((fmsM_ok (secO (nf ms) A)).2 _).2 ?_
      have h2 : (gi (labs (nf ms) A) t).toNat < (secO (nf ms) A).length := by rw [hso]; omega
      simp [List.getD, h2]
    obtain ⟨hk1, hk2⟩ := idxM_of hkx hin
    rw [if_pos hk1]
    have hky8 := hky7.below hb8
    have hb78 := hb7.trans (hb8.mono hb7.size)
    refine go ?_
    refine s_storeI (wn rfl) rfl rfl hky8 (by omega) (by omega) (fun w9 hky9 hg9 => ?_)
    have hb9 := hb78.trans (hky8.below_of hg9 hb78.size)
    have egk : gi (secK (nf ms) A) t = (kx : Int) := by
      rw [hk2]
      unfold secK
      rw [gi_map (by omega) (by rw [hll]; omega)]
    have ez := zfill_set (xs := secK (nf ms) A) (t := t) (by omega)
    rw [hkl, egk] at ez
    unfold seti at hky9
    rw [show ((t : Int)).toNat = t by omega, ez] at hky9
    refine go ?_
    exact ⟨nf ms - (t + 1), by omega, t + 1, rfl, by omega, rfl, rfl, rfl, rfl, rfl, rfl, rfl, hky9, hb9⟩
  obtain rfl : t = nf ms := by omega
  rw [Nat.sub_self, List.replicate_zero, List.append_nil, List.take_of_length_le (by omega)] at hky
  have hso5 := hso3.below hb5
  have hEs5 := hEs.below hb5
  have z5 := hb5.size
  -- their clones
  refine go ?_
  refine w_loop (fun kk fr w' => ∃ (j : Nat) (ou : Value) (vs' : List Value), kk = us.length - j ∧ j ≤ us.length ∧ fr 14 = ky ∧ fr 17 = ou ∧ fr 71 = so ∧ fr 72 = .int .i64 us.length ∧ fr 73 = .int .i64 j ∧
      Own w' w5.heap.size 26 ou vs' ∧ Els w' 33 2 vs' ((secF (nf ms) A).take j) ∧ Below w5.heap.size w5 w') us.length
    ⟨0, _, [], rfl, Nat.zero_le _, rfl, rfl, rfl, rfl, rfl, Own.nil _ _ _, Els.nil _ _ _, Below.refl _ _⟩ ?_
  rintro kk fr w6 ⟨j, ou, vs', rfl, hj, f14, f17, f71, f72, f73, hou, hEo, hb6⟩
  have hso6 := hso5.below hb6
  have hEs6 := hEs5.below hb6
  have hel := hEo.len
  rw [List.length_take] at hel
  refine know (t := 14) f14 ?_; refine know (t := 17) f17 ?_; refine know (t := 71) f71 ?_; refine know (t := 72) f72 ?_; refine know (t := 73) f73 ?_
  refine go ?_
  refine cond_dec rfl (fun hlt => ?_) (fun hge => ?_)
  · have hjl : j < us.length := by omega
    have hjF : j < (secF (nf ms) A).length := by omega
    obtain ⟨_, _, hu⟩ := hEs6.row j (us.getD j undef) ((secF (nf ms) A).getD j []) (by simp [List.getD, hjl]) (by simp [List.getD, hjF])
    have hcu : w6.cell? (addrOf so ((j : Int)).toNat) = some (us.getD j undef) := by
      rw [show ((j : Int)).toNat = j by omega]
      exact hso6.rd.cell (by simp [List.getD, hjl])
    have hinF : (secF (nf ms) A).getD j [] ∈ secF (nf ms) A := by simp [List.getD, hjF]
    have hmj := hman _ (((fmsM_ok (secO (nf ms) A)).2 _).1 hinF)
    have hrj := hu.rl
    have suj := hrj.sv
    refine go ?_
    refine s_p (wn rfl) rfl (y_idxSE rfl rfl sso (by omega) (by omega)) ?_
    refine go ?_
    refine s_alloc (B := w6.heap.size) (wn rfl) rfl (Nat.le_refl _) (fun w7 p19 h19 hg7 hp7 => ?_)
    have hb7 := below_of_grownBy hg7
    refine go ?_
    refine s_storeBox (wn rfl) rfl rfl hrj.sv.one h19 (fun w8 h198 hg8 => ?_)
    have hb8 := hb7.trans (h19.below_of hg8 hb7.size)
    have hc19 := h198.cell
    have hrj8 := hrj.below hb8
    refine go ?_
    refine s_call1 (wn rfl) rfl rfl (cloneManiplex_any _ _ _ hrj8 (by have := hmj.m0.r5; omega) (fun xs hxs => by obtain ⟨q, hq, rfl⟩ := mem_gr hxs; have := (hmj.m0.row q hq).1; have := hmj.m0.f400; omega)) ?_
    rintro _ w9 ⟨x9, rfl, ho9, hb9⟩
    have hb89 := hb8.trans (hb9.mono hb8.size)
    refine go ?_
    refine s_buildE (B := w9.heap.size) [x9] (wn rfl) rfl rfl (by decide) rfl (by simpa using ho9.sv.one) (Nat.le_refl _) (fun tb w10 ht10 hg10 _ => ?_)
    have hb10 := hb89.trans ((below_of_grownBy hg10).mono hb89.size)
    have ho10 := ho9.below (below_of_grownBy hg10)
    have hou10 := hou.below hb10
    have hEo10 := hEo.below hb10
    refine go ?_
    refine s_appendE (wn rfl) rfl rfl rfl hou10 ht10.rd (by simpa using ho9.sv.one) (by simp; omega) (by have := hb6.size; have := hb10.size; omega) (fun ou' w11 hou11 hg11 _ => ?_)
    have hE11 := (hEo10.kept hou10 (by decide) (by decide) hg11).app (Els.single (ho10.kept_type hou10 (by decide) (by decide) hg11))
    have hb6n := hb6.trans (hb10.mono hb6.size)
    have hb11 := hb6n.trans (grownBy_below hg11 hb6n.size (fun g hg => (hou10.lt g hg).1))
    refine go ?_
    refine ⟨us.length - (j + 1), by omega, j + 1, ou', _, rfl, by omega, rfl, rfl, rfl, rfl, rfl, hou11, ?_, hb11⟩
    rw [List.take_succ_eq_append_getElem hjF]
    have e : (secF (nf ms) A).getD j [] = (secF (nf ms) A)[j] := by simp [List.getD, hjF]
    rw [← e]
    exact hE11
  obtain rfl : j = us.length := by omega
  rw [List.take_of_length_le (by omega)] at hEo
  have hky6 := hky.below hb6
  have hbw := (hbA.trans (hbA3.mono zA)).trans ((hb5.trans (hb6.mono z5)).mono (by omega))
  refine go ?_
  exact end_two Tryz.results22 rfl rfl ⟨_, _, _, rfl, hou.mono (by omega), hEo, hky6.mono (by omega), hbw⟩
end Go.Proofs.YtinbiahmipfibaaGreat

/- Contracts: HasEqualVertexFigures and SectionKinds (the program's side). -/
namespace Go.Mem
open Go.RowKit
set_option linter.unusedVariables false
/-- 0 ≤ i ≤ k ≤ the greatest rank -/
def SecOk (ms : List (List Int)) (i k : Int) : Prop := 0 ≤ i ∧ i ≤ k ∧ k < ms.length
instance (ms : List (List Int)) (i k : Int) : Decidable (SecOk ms i k) := inferInstanceAs (Decidable (_ ∧ _))
def secA (ms : List (List Int)) (i k : Int) : List (List Int) := (ms.take (k + 1).toNat).drop i.toNat
noncomputable def skL (ms : List (List Int)) (i k : Int) : List Int := if IsMan ms ∧ SecOk ms i k then secK (nf ms) (secA ms i k) else []
noncomputable def skC (ms : List (List Int)) (i k : Int) : Int := if IsMan ms then (if SecOk ms i k then 0 else 2) else 1
noncomputable def heB (ms : List (List Int)) : Bool := decide (IsMan ms ∧ ms.length ≠ 1 ∧ (secF (nf ms) (secA ms 1 ((ms.length : Int) - 1))).length = 1)
noncomputable def heC (ms : List (List Int)) : Int := if IsMan ms then (if ms.length = 1 then 5 else 0) else 1
section
variable {ms : List (List Int)} {i k : Int}
theorem sk_1 (h : ¬ IsMan ms) : skL ms i k = [] ∧ skC ms i k = 1 := ⟨if_neg fun e => h e.1, if_neg h⟩
theorem sk_2 (hm : IsMan ms) (h : ¬ SecOk ms i k) : skL ms i k = [] ∧ skC ms i k = 2 := ⟨if_neg fun e => h e.2, by unfold skC; rw [if_pos hm, if_neg h]⟩
theorem sk_3 (hm : IsMan ms) (h : SecOk ms i k) : skL ms i k = secK (nf ms) (secA ms i k) ∧ skC ms i k = 0 := ⟨if_pos ⟨hm, h⟩, by unfold skC; rw [if_pos hm, if_pos h]⟩
theorem he_1 (h : ¬ IsMan ms) : heB ms = false ∧ heC ms = 1 := ⟨decide_eq_false fun e => h e.1, if_neg h⟩
theorem he_2 (hm : IsMan ms) (h : ms.length = 1) : heB ms = false ∧ heC ms = 5 := ⟨decide_eq_false fun e => e.2.1 h, by unfold heC; rw [if_pos hm, if_pos h]⟩
theorem he_3 (hm : IsMan ms) (h : ms.length ≠ 1) : heB ms = decide ((secF (nf ms) (secA ms 1 ((ms.length : Int) - 1))).length = 1) ∧ heC ms = 0 := ⟨by unfold heB; rw [decide_eq_decide]; exact ⟨fun e => e.2.2, fun e => ⟨hm, h, e⟩⟩, by unfold heC; rw [if_pos hm, if_neg h]⟩
theorem skL_len (ms : List (List Int)) (i k : Int) : (skL ms i k).length ≤ 400 := by
  unfold skL
  split
  · rename_i h
    have h4 := h.1.m0.f400
    have h5 := h.1.like
    obtain ⟨h1, h2, h3⟩ := h.2
    have hlk : Like (nf ms) (secA ms i k) := (h5.take (by omega)).drop (by simp; omega)
    have hL := (labs_all (hlk.sym fun m h => h) (by omega)).len
    simp [secK, hL]; exact h4
  · simp
end
end Go.Mem
namespace Go.Proofs.YtinbiahmipfibaaGreat
open Go.Mem Go.RowKit
set_option linter.unusedVariables false
set_option linter.unusedSimpArgs false

set_option maxRecDepth 100000 in
theorem areRanks_any (v : Value) (pv : Addr) (ms : List (List Int)) (i k : Int) (w : World) (hv : RL w v ms) (hxv : w.cell? pv = some v) (h5 : ms.length ≤ 5) :
    Ret Tryz.prog 21 #[.pointer (some pv), .int .i64 i, .int .i64 k] w fun r w' => r = .bool (decide (SecOk ms i k)) ∧ w = w' := by
  have shv := hv.sv
  refine enter3 20 Tryz.func21 rfl Tryz.ntmps21 rfl (fun fr => ?_)
  refine go ?_
  refine s_call2 (wn rfl) rfl rfl rfl (hasRank_any _ _ _ _ _ hv hxv h5) ?_
  rintro _ _ ⟨rfl, rfl⟩
  by_cases h1 : 0 ≤ i ∧ i < ms.length
  rotate_left
  · have e : decide (SecOk ms i k) = false := decide_eq_false fun h => h1 ⟨h.1, by have := h.2.1; have := h.2.2; omega⟩
    rw [decide_eq_false h1, e]
    refine go ?_
    exact end_one Tryz.results21 rfl ⟨rfl, rfl⟩
  rw [decide_eq_true h1]
  refine go ?_
  refine s_call2 (wy rfl rfl rfl rfl rfl known) rfl rfl rfl (hasRank_any _ _ _ _ _ hv hxv h5) ?_
  rintro _ _ ⟨rfl, rfl⟩
  by_cases h2 : 0 ≤ k ∧ k < ms.length
  rotate_left
  · have e : decide (SecOk ms i k) = false := decide_eq_false fun h => h2 ⟨by have := h.1; have := h.2.1; omega, h.2.2⟩
    rw [decide_eq_false h2, e]
    refine go ?_
    exact end_one Tryz.results21 rfl ⟨rfl, rfl⟩
  rw [decide_eq_true h2]
  refine go ?_
  exact end_one Tryz.results21 rfl ⟨by congr 1; rw [decide_eq_decide]; exact ⟨fun h => ⟨h1.1, h, h2.2⟩, fun h => h.2.1⟩, rfl⟩

set_option maxHeartbeats 8000000 in
set_option maxRecDepth 100000 in
theorem implSectionKinds_any (v : Value) (ms : List (List Int)) (i k : Int) (w : World) (hv : RL w v ms) :
    Ret Tryz.prog 9 #[.agg #[v], .int .i64 i, .int .i64 k] w fun r w' => ∃ y, r = .tuple #[y, .int .i64 (skC ms i k)] ∧ OI w' w.heap.size 2 y (skL ms i k) ∧ Below w.heap.size w w' := by
  have sv := hv.sv
  refine enter3 26 Tryz.func9 rfl Tryz.ntmps9 rfl (fun fr => ?_)
  refine go ?_
  refine s_box (wn rfl) rfl rfl (agg_cells sv) (fun w1 hbx _ hp1 hg => ?_)
  have hb := below_of_grownBy hg
  have hv := hv.below hb
  generalize hpe : (⟨w.heap.size, 0, none⟩ : Addr) = p at *
  refine go ?_
  refine s_call1 (wn rfl) rfl rfl (isManiplex_any _ _ _ hv) ?_
  rintro _ w2 ⟨rfl, hb2⟩
  have hb := hb.trans (hb2.mono hb.size)
  have hbx := cell_below hbx hb2
  have hv := hv.below hb2
  refine splitb (decide (IsMan ms)) (fun hm => ?_) (fun hm => ?_)
  rotate_left
  · have hm' := of_decide_eq_false hm
    have e := sk_1 (i := i) (k := k) hm'
    refine go ?_
    exact end_two Tryz.results9 rfl rfl ⟨_, by rw [e.2], by rw [e.1]; exact OI.nil _ _ _, hb⟩
  have hm' := of_decide_eq_true hm
  refine go ?_
  refine s_call3 (wn rfl) rfl rfl rfl rfl (areRanks_any _ _ _ _ _ _ hv hbx hm'.m0.r5) ?_
  rintro _ _ ⟨rfl, rfl⟩
  refine splitb (decide (SecOk ms i k)) (fun hs => ?_) (fun hs => ?_)
  rotate_left
  · have e := sk_2 hm' (of_decide_eq_false hs)
    refine go ?_
    exact end_two Tryz.results9 rfl rfl ⟨_, by rw [e.2], by rw [e.1]; exact OI.nil _ _ _, hb⟩
  have hs' := of_decide_eq_true hs
  have e := sk_3 hm' hs'
  refine go ?_
  refine s_call3 (wn rfl) rfl rfl rfl rfl (sectionForms_any _ _ _ _ _ _ hv hbx hm' hs') ?_
  rintro _ w3 ⟨x, y, us, rfl, hx, hE, hy, hb3⟩
  have hbz := hb.trans (hb3.mono hb.size)
  refine go ?_
  exact end_two Tryz.results9 rfl rfl ⟨_, by rw [e.2], by rw [e.1]; exact hy.mono hb.size, hbz⟩

set_option maxHeartbeats 8000000 in
set_option maxRecDepth 100000 in
theorem implHasEqualVertexFigures_any (v : Value) (ms : List (List Int)) (w : World) (hv : RL w v ms) :
    Ret Tryz.prog 16 #[.agg #[v]] w fun r w' => r = .tuple #[.bool (heB ms), .int .i64 (heC ms)] ∧ Below w.heap.size w w' := by
  have sv := hv.sv
  refine enter1 22 Tryz.func16 rfl Tryz.ntmps16 rfl (fun fr => ?_)
  refine go ?_
  refine s_box (wn rfl) rfl rfl (agg_cells sv) (fun w1 hbx _ hp1 hg => ?_)
  have hb := below_of_grownBy hg
  have hv := hv.below hb
  generalize hpe : (⟨w.heap.size, 0, none⟩ : Addr) = p at *
  refine go ?_
  refine s_call1 (wn rfl) rfl rfl (isManiplex_any _ _ _ hv) ?_
  rintro _ w2 ⟨rfl, hb2⟩
  have hb := hb.trans (hb2.mono hb.size)
  have hbx := cell_below hbx hb2
  have hv := hv.below hb2
  refine splitb (decide (IsMan ms)) (fun hm => ?_) (fun hm => ?_)
  rotate_left
  · have e := he_1 (of_decide_eq_false hm)
    refine go ?_
    exact end_two Tryz.results16 rfl rfl ⟨by rw [e.1, e.2], hb⟩
  have hm' := of_decide_eq_true hm
  have r1 := hm'.m0.r1
  have r5 := hm'.m0.r5
  refine go ?_
  refine s_call1 (wn rfl) rfl rfl (rank_any _ _ _ _ hbx sv) ?_
  rintro _ _ ⟨rfl, rfl⟩
  refine go ?_
  by_cases h1 : ms.length = 1
  · have e := he_2 hm' h1
    have hd : decide ((ms.length : Int) = 1) = true := decide_eq_true (by omega)
    refine go ?_
    exact end_two Tryz.results16 rfl rfl ⟨by rw [e.1, e.2], hb⟩
  have e := he_3 hm' h1
  have hd : decide ((ms.length : Int) = 1) = false := decide_eq_false (by omega)
  refine go ?_
  refine s_call1 (wn rfl) rfl rfl (rank_any _ _ _ _ hbx sv) ?_
  rintro _ _ ⟨rfl, rfl⟩
  refine go ?_
  refine s_call3 (wn rfl) rfl rfl rfl rfl (sectionForms_any _ _ _ _ _ _ hv hbx hm' ⟨by omega, by omega, by omega⟩) ?_
  rintro _ w3 ⟨x, y, us, rfl, hx, hE, hy, hb3⟩
  have hbz := hb.trans (hb3.mono hb.size)
  have sx := hx.sv
  have hel := hE.len
  refine go ?_
  exact end_two Tryz.results16 rfl rfl ⟨by
    rw [e.1, e.2]
    have : decide ((us.length : Int) = 1) = decide ((secF (nf ms) (secA ms 1 ((ms.length : Int) - 1))).length = 1) := by
      rw [decide_eq_decide, hel]
      show (((secF (nf ms) (secA ms 1 ((ms.length : Int) - 1))).length : Int) = 1) ↔ _
      omega
    rw [this], hbz⟩
end Go.Proofs.YtinbiahmipfibaaGreat

/- Contracts: the forms of sections (the reference). -/
namespace Go.Mem
open Go.RowKit
set_option linter.unusedVariables false
section
variable {P : Program} {n : Nat} {f : Fm} {w : World} {dst : Option Tmp} {ty : TypeId} {pos : String} {after : Array Edge} {g : Option (Nat × Bool)}
theorem y_cutR2E {x lo hi : Operand} {t e : TypeId} {z : Value} {bytes : Nat} [ht : SliceTy P t e] [he : CellTy P e z bytes] {v : Value} {xss : List (List Int)} {kl kh : IntKind} {l r : Int}
    (hx : lk n f x = some v) (hlo : lk n f lo = some (.int kl l)) (hhi : lk n f hi = some (.int kh r)) (h : RL w v xss) (h0 : 0 ≤ l) (hl : l ≤ r) (hr : r ≤ xss.length) :
    Yld P (evo n f) ⟨dst, .slice t x (some lo) (some hi) none, ty, pos, after, g⟩ w (cut v l.toNat r.toNat) := by
  obtain ⟨vs, h1, h2, _⟩ := h.out
  exact y_cut hx hlo hhi h1 h0 hl (by omega)
end
theorem OM.boxE {w w' : World} {B E B2 : Nat} {T U T2 : TypeId} {v x : Value} {xss : List (List Int)} {p : Addr} (h : OM w B E T U v xss) (k : Bx w B2 p T2 x) (h1 : T ≠ T2) (h2 : U ≠ T2) (hg : w.grownBy w' (some p.block)) : OM w' B E T U v xss := by
  have ap : ∀ {B3 : Nat} {T3 : TypeId} {a : Value} {ws : List Value}, Own w B3 T3 a ws → T3 ≠ T2 → a.ownBlock ≠ some p.block := by
    intro B3 T3 a ws ha hT
    have h1 := k.row
    rcases ha with ⟨rfl, rfl⟩ | ⟨g, off, cap, cur, rfl, hb, hg, _⟩
    · simp [Value.ownBlock]
    · simp only [Value.ownBlock, ne_eq, Option.some.injEq]
      intro e
      rw [← e, hg] at h1
      simp only [Option.some.injEq, Obj.cells.injEq] at h1
      exact hT h1.2.1
  obtain ⟨vs, k1, k2⟩ := h.rws
  exact Rws.om ⟨k2.one, k2.len, fun i a zs ha hz => (k2.row i a zs ha hz).kept hg (.inr (ap (k2.row i a zs ha hz).own h2)), k2.lt, k2.apart⟩ (k1.kept hg (.inr (ap k1 h1)))

theorem insM_at (L : List (List (List Int))) (x : List (List Int)) (q : Nat) (hl : q ≤ L.length) (h1 : ∀ j, j < q → befM (L.getD j []) x = true) (h2 : (decide (q < L.length) && befM (L.getD q []) x) = false) :
    insF befM L x = if (decide (q < L.length) && decide (L.getD q [] = x)) = true then L else L.take q ++ x :: L.drop q := by
  rw [insF_at L x q hl (fun i hi hq => by have := h1 i hq; simpa [List.getD, hi] using this) (fun hi => by simpa [List.getD, hi] using h2)]
  by_cases hq : q < L.length
  · by_cases e : L[q] = x
    · rw [if_pos ⟨hq, e⟩, if_pos (by simp [List.getD, hq, e])]
    · rw [if_neg (fun ⟨_, h⟩ => e h), if_neg (by simp [List.getD, hq, e])]
  · rw [if_neg (fun ⟨h, _⟩ => hq h), if_neg (by simp [hq])]
end Go.Mem
namespace Go.Proofs.YtinbiahmipfibaaGreat
open Go.Mem Go.RowKit
set_option linter.unusedVariables false
set_option linter.unusedSimpArgs false

set_option maxHeartbeats 8000000 in
set_option maxRecDepth 100000 in
theorem l04Before_any (v v2 : Value) (xss yss : List (List Int)) (w : World) (hv : RL w v xss) (hv2 : RL w v2 yss) (r1 : 1 ≤ xss.length) (r2 : 1 ≤ yss.length) :
    Ret Tryz.prog 57 #[.agg #[v], .agg #[v2]] w fun r w' => r = .bool (befM xss yss) ∧ Below w.heap.size w w' := by
  have shv := hv.sv
  have shv2 := hv2.sv
  refine enter2 20 Tryz.func57 rfl Tryz.ntmps57 rfl (fun fr => ?_)
  refine go ?_
  refine s_box (wn rfl) rfl rfl (agg_cells shv) (fun w1 hx _ hp hg => ?_)
  have b1 := below_of_grownBy hg
  replace hv := hv.below b1
  replace hv2 := hv2.below b1
  clear hg hp
  generalize (⟨w.heap.size, 0, none⟩ : Addr) = p at *
  refine go ?_
  refine s_box (wn rfl) rfl rfl (agg_cells shv2) (fun w2 hx2 _ hp hg => ?_)
  have b2 := below_of_grownBy hg
  replace hv := hv.below b2
  replace hv2 := hv2.below b2
  replace hx := cell_below hx b2
  have hb := b1.trans (b2.mono b1.size)
  clear hg hp
  generalize (⟨w1.heap.size, 0, none⟩ : Addr) = p2 at *
  refine go ?_
  refine region_hS (fun w' => w'.cell? p = some v ∧ w'.cell? p2 = some v2) mixed (fun w3 cr => ?_)
  replace hv := hv.below cr
  replace hv2 := hv2.below cr
  replace hx := cell_below hx cr
  replace hx2 := cell_below hx2 cr
  replace hb := hb.trans (cr.mono hb.size)
  refine h_p 0 ⟨hx, hx2⟩ ?_ (hrun := fun w' h => by obtain ⟨h1, h2⟩ := h; exact yl)
  refine h_p 2 ⟨hx, hx2⟩ ?_ (hrun := fun w' h => by obtain ⟨h1, h2⟩ := h; exact yl)
  refine h_one 1 ?_
  refine s_call1 (wn rfl) rfl rfl (l02Flags_any _ _ _ hv r1) ?_
  rintro _ w4 ⟨rfl, hb4⟩
  replace hv2 := hv2.below hb4
  replace hv := hv.below hb4
  replace hx := cell_below hx hb4
  replace hx2 := cell_below hx2 hb4
  replace hb := hb.trans (hb4.mono hb.size)
  refine w_nil ?_
  refine h_on ⟨⟨hx, hx2⟩, ?_⟩
  refine h_one 3 ?_
  refine s_call1 (wn rfl) rfl rfl (l02Flags_any _ _ _ hv2 r2) ?_
  rintro _ w5 ⟨rfl, hb5⟩
  replace hv2 := hv2.below hb5
  replace hv := hv.below hb5
  replace hx := cell_below hx hb5
  replace hx2 := cell_below hx2 hb5
  replace hb := hb.trans (hb5.mono hb.size)
  refine w_nil ?_
  refine h_on ⟨⟨hx, hx2⟩, ?_⟩
  refine h_p 4 ⟨hx, hx2⟩ ?_ (hrun := fun w' h => by obtain ⟨h1, h2⟩ := h; exact yl)
  refine h_nil ?_
  refine go ?_
  refine cond_dec rfl (fun hne => ?_) (fun hne => ?_)
  · refine go ?_
    refine region_hS (fun w' => w'.cell? p = some v ∧ w'.cell? p2 = some v2) mixed (fun w3 cr => ?_)
    replace hv := hv.below cr
    replace hv2 := hv2.below cr
    replace hx := cell_below hx cr
    replace hx2 := cell_below hx2 cr
    replace hb := hb.trans (cr.mono hb.size)
    refine h_p 0 ⟨hx, hx2⟩ ?_ (hrun := fun w' h => by obtain ⟨h1, h2⟩ := h; exact yl)
    refine h_p 2 ⟨hx, hx2⟩ ?_ (hrun := fun w' h => by obtain ⟨h1, h2⟩ := h; exact yl)
    refine h_one 1 ?_
    refine s_call1 (wn rfl) rfl rfl (l02Flags_any _ _ _ hv r1) ?_
    rintro _ w4 ⟨rfl, hb4⟩
    replace hv2 := hv2.below hb4
    replace hv := hv.below hb4
    replace hx := cell_below hx hb4
    replace hx2 := cell_below hx2 hb4
    replace hb := hb.trans (hb4.mono hb.size)
    refine w_nil ?_
    refine h_on ⟨⟨hx, hx2⟩, ?_⟩
    refine h_one 3 ?_
    refine s_call1 (wn rfl) rfl rfl (l02Flags_any _ _ _ hv2 r2) ?_
    rintro _ w5 ⟨rfl, hb5⟩
    replace hv2 := hv2.below hb5
    replace hv := hv.below hb5
    replace hx := cell_below hx hb5
    replace hx2 := cell_below hx2 hb5
    replace hb := hb.trans (hb5.mono hb.size)
    refine w_nil ?_
    refine h_on ⟨⟨hx, hx2⟩, ?_⟩
    refine h_p 4 ⟨hx, hx2⟩ ?_ (hrun := fun w' h => by obtain ⟨h1, h2⟩ := h; exact yl)
    refine h_p 5 ⟨hx, hx2⟩ ?_ (hrun := fun w' h => by obtain ⟨h1, h2⟩ := h; exact yl)
    refine h_nil ?_
    refine go ?_
    exact end_one Tryz.results57 rfl ⟨by unfold befM; rw [if_neg (by omega)]; congr 1; rw [decide_eq_decide]; omega, hb⟩
  · have en : nf xss = nf yss := by omega
    refine go ?_
    refine s_call2 (wn rfl) rfl rfl rfl (l01Less2_any _ _ _ _ _ hv hv2) ?_
    rintro _ w3 ⟨rfl, hb3⟩
    have hbz := hb.trans (hb3.mono hb.size)
    refine go ?_
    exact end_one Tryz.results57 rfl ⟨by unfold befM; rw [if_pos en], hbz⟩

set_option maxHeartbeats 32000000 in
set_option maxRecDepth 100000 in
theorem l04Forms_any (v : Value) (ms : List (List Int)) (i k : Int) (w : World) (hv : RL w v ms) (hm : IsMan ms) (hi : 0 ≤ i ∧ i ≤ k ∧ k < ms.length) :
    Ret Tryz.prog 24 #[.agg #[v], .int .i64 i, .int .i64 k] w fun r w' => ∃ x y us, r = .tuple #[x, y] ∧ Own w' w.heap.size 26 x us ∧ Els w' 33 2 us (secF (nf ms) (secA ms i k)) ∧
      OI w' w.heap.size 2 y (secK (nf ms) (secA ms i k)) ∧ Below w.heap.size w w' := by
  have shv := hv.sv
  have r5 := hm.m0.r5
  have r1 := hm.m0.r1
  have f4 := hm.m0.f400
  have f2 := hm.m0.f2
  have hlk : Like (nf ms) (secA ms i k) := (hm.like.take (by omega)).drop (by simp; omega)
  have hA5 := hlk.r5
  have hA1 := hlk.r1
  have hsym : Sym (nf ms) (secA ms i k) := hlk.sym (fun m h => h)
  have hL := labs_all hsym (by omega)
  have hc0 := hL.c0
  have hll := hL.len
  have hgre := gre_labs hsym (by omega)
  have hmem := hL.mem
  have hm1 := labc_posL hL (by omega)
  have hman := secO_ok hlk (by omega)
  have hso := secO_len (n := nf ms) (A := secA ms i k)
  have hFl := secF_le (n := nf ms) (A := secA ms i k)
  refine enter3 117 Tryz.func24 rfl Tryz.ntmps24 rfl (fun fr => ?_)
  refine go ?_
  refine s_box (wn rfl) rfl rfl (agg_cells shv) (fun w1 hbx _ hp hg => ?_)
  have hb := below_of_grownBy hg
  replace hv := hv.below hb
  clear hg hp
  generalize (⟨w.heap.size, 0, none⟩ : Addr) = p at *
  refine go ?_
  refine region_hS (fun w' => w'.cell? p = some v ∧ RL w' v ms) mixed (fun w2 cr => ?_)
  replace hv := hv.below cr
  replace hbx := cell_below hbx cr
  replace hb := hb.trans (cr.mono hb.size)
  refine h_p 0 ⟨hbx, hv⟩ ?_ (hrun := fun w' h => by obtain ⟨h1, h2⟩ := h; exact yl)
  refine h_p 2 ⟨hbx, hv⟩ ?_ (hrun := fun w' h => by obtain ⟨h1, h2⟩ := h; exact yl)
  refine h_p 3 ⟨hbx, hv⟩ ?_ (hrun := fun w' h => by obtain ⟨h1, h2⟩ := h; exact yl)
  refine h_p 4 ⟨hbx, hv⟩ ?_ (hrun := fun w' h => by obtain ⟨h1, h2⟩ := h; exact yl)
  refine h_p 5 ⟨hbx, hv⟩ ?_ (hrun := fun w' h => by obtain ⟨h1, h2⟩ := h; exact yl)
  refine h_p 6 ⟨hbx, hv⟩ ?_ (hrun := fun w' h => by obtain ⟨h1, h2⟩ := h; exact yl)
  refine h_p 7 ⟨hbx, hv⟩ ?_ (hrun := fun w' h => y_cutR2E rfl rfl rfl h.2 (by omega) (by omega) (by omega))
  refine h_one 1 ?_
  refine s_call1 (wn rfl) rfl rfl (l02Flags_any _ _ _ hv r1) ?_
  rintro _ w3 ⟨rfl, hb3⟩
  replace hv := hv.below hb3
  replace hbx := cell_below hbx hb3
  replace hb := hb.trans (hb3.mono hb.size)
  refine w_nil ?_
  refine h_on ⟨⟨hbx, hv⟩, ?_⟩
  have hrl := hv.cut (l := i.toNat) (r := (k + 1).toNat) (by omega) (by omega)
  have hAe : (ms.take (k + 1).toNat).drop i.toNat = secA ms i k := rfl
  rw [hAe] at hrl
  refine h_one 8 ?_
  refine s_call2 (wn rfl) rfl rfl rfl (l01Orbits_any _ _ _ _ hrl hsym (by omega) (by omega)) ?_
  rintro lb w4 ⟨hx, hb4⟩
  replace hv := hv.below hb4
  replace hbx := cell_below hbx hb4
  have hbA := hb.trans (hb4.mono hb.size)
  refine w_nil ?_
  refine h_on ⟨⟨hbx, hv⟩, ?_⟩
  refine h_p 9 ⟨hbx, hv⟩ ?_ (hrun := fun w' h => by obtain ⟨h1, h2⟩ := h; exact yl)
  refine h_nil ?_
  clear hrl hb hb3 cr hb4
  have zA := hbA.size
  have hplt := World.block_lt_of_cell? _ _ hbx
  generalize hAg : secA ms i k = A at *
  obtain ⟨m, hmm⟩ : ∃ m : Nat, labc (nf ms) A = m := ⟨_, (Int.toNat_of_nonneg hc0.1).symm⟩
  refine go ?_
  refine s_buildE (B := w4.heap.size) [] (wn rfl) rfl rfl (by decide) rfl (by simp) (Nat.le_refl _) (fun ra w5 hra hg5 hka => ?_)
  have hb5 := below_of_grownBy hg5
  refine go ?_
  refine s_buildE (B := w4.heap.size) [] (wn rfl) rfl rfl (by decide) rfl (by simp) hb5.size (fun rb w6 hrb hg6 hkb => ?_)
  have hb6 := hb5.trans ((below_of_grownBy hg6).mono hb5.size)
  have hra6 := hra.below (below_of_grownBy hg6)
  have hap : ∀ g, ra.ownBlock = some g → rb.ownBlock ≠ some g := fun g h1 h2 => by
    rw [hka] at h1; rw [hkb] at h2
    have h3 := Option.some.inj h1
    have h4 := Option.some.inj h2
    have h5 := (hra.lt _ hka).2
    omega
  clear hra
  refine go ?_
  refine w_loop (fun kk fr w' => ∃ (o : Nat) (ra rb : Value) (va vb : List Value), kk = m - o ∧ o ≤ m ∧ fr 1 = .int .i64 i ∧ fr 2 = .int .i64 k ∧ fr 3 = .pointer (some p) ∧ fr 8 = lb ∧ fr 9 = ra ∧ fr 10 = rb ∧ fr 11 = .int .i64 o ∧
      Own w' w4.heap.size 26 ra va ∧ Els w' 33 2 va ((secO (nf ms) A).take o) ∧ Own w' w4.heap.size 26 rb vb ∧ Els w' 33 2 vb (fmsM ((secO (nf ms) A).take o)) ∧
      (∀ g, ra.ownBlock = some g → rb.ownBlock ≠ some g) ∧ Below w4.heap.size w4 w') m
    ⟨0, _, _, [], [], rfl, Nat.zero_le _, rfl, rfl, rfl, rfl, rfl, rfl, rfl, hra6, Els.nil _ _ _, hrb, Els.nil _ _ _, hap, hb6⟩ ?_
  clear hra6 hrb hap hka hkb hg5 hg6
  rintro kk fr u1 ⟨o, ra, rb, va, vb, rfl, ho, f1, f2', f3, f8, f9, f10, f11, hra, hEa, hrb, hEb, hap, hc⟩
  have zc := hc.size
  have hv1 := hv.below hc
  have hx1 := hx.below hc
  have hbx1 := cell_below hbx hc
  have sx1 := hx1.sv
  have hal := hEa.len
  have hbl := hEb.len
  rw [List.length_take] at hal
  refine know (t := 1) f1 ?_; refine know (t := 2) f2' ?_; refine know (t := 3) f3 ?_; refine know (t := 8) f8 ?_; refine know (t := 9) f9 ?_; refine know (t := 10) f10 ?_; refine know (t := 11) f11 ?_
  refine go ?_
  refine s_call1 (wn rfl) rfl rfl (l02Greatest_any _ _ _ hx1.il (fun x h => by have := hmem x h; omega)) ?_
  rintro _ _ ⟨rfl, rfl⟩
  rw [hgre, hmm]
  refine go ?_
  refine cond_dec rfl (fun hlt => ?_) (fun hge => ?_)
  · have hom : o < (labc (nf ms) A).toNat := by omega
    obtain ⟨i0, i1⟩ := idx_rng hL hom
    have hfm := frm_man hlk ⟨i0, i1⟩
    have hxm : IsMan (lst (frm (nf ms) A (idxOf (labs (nf ms) A) o))) := hman _ (by rw [← secO_at hom]; simp [List.getD, hso, hom])
    have hall : ∀ j, j < vb.length → 1 ≤ ((fmsM ((secO (nf ms) A).take o)).getD j []).length := fun j hj => by
      have h2 : (fmsM ((secO (nf ms) A).take o)).getD j [] ∈ fmsM ((secO (nf ms) A).take o) := by simp [List.getD, show j < (fmsM ((secO (nf ms) A).take o)).length by omega]
      exact (hman _ (List.mem_of_mem_take (((fmsM_ok _).2 _).1 h2))).m0.r1
    have hxr1 := hxm.m0.r1
    have e1 := secO_take hom
    generalize hxe : lst (frm (nf ms) A (idxOf (labs (nf ms) A) o)) = xx at *
    have hins := fmsM_snoc ((secO (nf ms) A).take o) xx
    generalize hFe : fmsM ((secO (nf ms) A).take o) = F at *
    have srb := hrb.sv
    rw [hbl] at srb
    have scb := srb.le
    have hFm : F.length ≤ m := by
      rw [← hFe]
      have := List.Nodup.length_le_of_subset (fmsM_nodup ((secO (nf ms) A).take o)) fun a ha => ((fmsM_ok _).2 a).1 ha
      rw [List.length_take] at this
      omega
    have hralt : ∀ g, ra.ownBlock = some g → g < u1.heap.size := fun g hg => (hra.lt g hg).2
    refine go ?_
    refine meet (fun r w' => r 1 = .int .i64 i ∧ r 2 = .int .i64 k ∧ r 3 = .pointer (some p) ∧ r 8 = lb ∧ r 9 = ra ∧ r 10 = rb ∧ r 11 = .int .i64 o ∧ ∃ (p12 : Addr) (x : Value) (B E : Nat), r 12 = .pointer (some p12) ∧ Bx w' u1.heap.size p12 26 x ∧ OM w' B E 33 2 x xx ∧ Below u1.heap.size u1 w') ?_ ?_
    · refine region_hS (fun w' => w'.cell? p = some v) mixed (fun u2 cr => ?_)
      replace hv1 := hv1.below cr
      replace hx1 := hx1.below cr
      replace hbx1 := cell_below hbx1 cr
      refine h_p 0 hbx1 ?_ (hrun := fun w' h => yl)
      refine h_p 1 hbx1 ?_ (hrun := fun w' h => yl)
      refine h_p 2 hbx1 ?_ (hrun := fun w' h => yl)
      refine h_p 4 hbx1 ?_ (hrun := fun w' h => yl)
      refine h_p 5 hbx1 ?_ (hrun := fun w' h => yl)
      refine h_two 3 8 ?_ ?_
      · skip
        refine s_call2 (wn rfl) rfl rfl rfl (l01Index_any _ _ _ _ hx1.il) ?_
        rintro _ _ ⟨rfl, rfl⟩
        refine w_nil ?_
        refine h_on ⟨hbx1, ?_⟩
        refine h_two 6 8 ?_ ?_
        · skip
          refine s_call4 (wn rfl) rfl rfl rfl rfl rfl (l04Section_any _ _ (nf ms) _ i k _ hv1 hm.syst ⟨i0, i1⟩ hi (by omega) (by omega)) ?_
          rintro _ u4 ⟨y6, rfl, ho6, hd4⟩
          have hAe : (ms.take (k + 1).toNat).drop i.toNat = A := hAg
          rw [hAe] at ho6
          have hv1 := hv1.below hd4
          have hx1 := hx1.below hd4
          have hbx1 := cell_below hbx1 hd4
          have hd4n := cr.trans (hd4.mono cr.size)
          refine w_nil ?_
          refine h_on ⟨hbx1, ?_⟩
          refine h_two 7 8 ?_ ?_
          · skip
            refine s_call1 (wn rfl) rfl rfl (l02Least_any _ _ _ ho6.rl hfm) ?_
            rintro _ u5 ⟨y7, rfl, ho7, hd5⟩
            rw [hxe] at ho7
            have hv1 := hv1.below hd5
            have hx1 := hx1.below hd5
            have hbx1 := cell_below hbx1 hd5
            have ho6 := ho6.below hd5
            have hd5n := hd4n.trans (hd5.mono hd4n.size)
            refine w_nil ?_
            refine h_on ⟨hbx1, ?_⟩
            refine h_one 8 ?_
            refine s_alloc (B := u1.heap.size) (wn rfl) rfl hd5n.size (fun u6 p12 hbq hgq6 _ => ?_)
            have hd6 := below_of_grownBy hgq6
            have hv1 := hv1.below hd6
            have hx1 := hx1.below hd6
            have hbx1 := cell_below hbx1 hd6
            have ho6 := ho6.below hd6
            have ho7 := ho7.below hd6
            have hd6n := hd5n.trans (hd6.mono hd5n.size)
            refine w_nil ?_
            refine h_on ⟨hbx1, ?_⟩
            refine h_one 9 ?_
            refine s_storeBox (wn rfl) rfl rfl ho7.sv.one hbq (fun u7 hbq2 hgz => ?_)
            have ho8 := ho7.boxE hbq (by decide) (by decide) hgz
            have hbx8 := cell_kept hbx1 hgz (fun e => by have h1 := Option.some.inj e; have h2 := hbq.low; omega)
            have hdz := hd6n.trans (hbq.below_of hgz hd6n.size)
            refine w_nil ?_
            refine h_on ⟨hbx8, ?_⟩
            refine h_nil ?_
            exact ⟨rfl, rfl, rfl, rfl, rfl, rfl, rfl, p12, _, _, _, rfl, hbq2, ho8, hdz⟩
          · skip
            refine s_alloc (B := u1.heap.size) (wn rfl) rfl hd4n.size (fun u8 p12 hbq hgq8 _ => ?_)
            have hd8 := below_of_grownBy hgq8
            have hv1 := hv1.below hd8
            have hx1 := hx1.below hd8
            have hbx1 := cell_below hbx1 hd8
            have ho6 := ho6.below hd8
            have hd8n := hd4n.trans (hd8.mono hd4n.size)
            refine w_nil ?_
            refine h_on ⟨hbx1, ?_⟩
            refine h_one 7 ?_
            refine s_call1 (wn rfl) rfl rfl (l02Least_any _ _ _ ho6.rl hfm) ?_
            rintro _ u9 ⟨y7, rfl, ho7, hd9⟩
            rw [hxe] at ho7
            have hv1 := hv1.below hd9
            have hx1 := hx1.below hd9
            have hbx1 := cell_below hbx1 hd9
            have ho6 := ho6.below hd9
            have hbq := hbq.below hd9
            have hd9n := hd8n.trans (hd9.mono hd8n.size)
            refine w_nil ?_
            refine h_on ⟨hbx1, ?_⟩
            refine h_one 9 ?_
            refine s_storeBox (wn rfl) rfl rfl ho7.sv.one hbq (fun u10 hbq2 hgz => ?_)
            have ho8 := ho7.boxE hbq (by decide) (by decide) hgz
            have hbx8 := cell_kept hbx1 hgz (fun e => by have h1 := Option.some.inj e; have h2 := hbq.low; omega)
            have hdz := hd9n.trans (hbq.below_of hgz hd9n.size)
            refine w_nil ?_
            refine h_on ⟨hbx8, ?_⟩
            refine h_nil ?_
            exact ⟨rfl, rfl, rfl, rfl, rfl, rfl, rfl, p12, _, _, _, rfl, hbq2, ho8, hdz⟩
        · skip
          refine s_alloc (B := u1.heap.size) (wn rfl) rfl cr.size (fun u11 p12 hbq hgq11 _ => ?_)
          have hd11 := below_of_grownBy hgq11
          have hv1 := hv1.below hd11
          have hx1 := hx1.below hd11
          have hbx1 := cell_below hbx1 hd11
          have hd11n := cr.trans (hd11.mono cr.size)
          refine w_nil ?_
          refine h_on ⟨hbx1, ?_⟩
          refine h_one 6 ?_
          refine s_call4 (wn rfl) rfl rfl rfl rfl rfl (l04Section_any _ _ (nf ms) _ i k _ hv1 hm.syst ⟨i0, i1⟩ hi (by omega) (by omega)) ?_
          rintro _ u12 ⟨y6, rfl, ho6, hd12⟩
          have hAe : (ms.take (k + 1).toNat).drop i.toNat = A := hAg
          rw [hAe] at ho6
          have hv1 := hv1.below hd12
          have hx1 := hx1.below hd12
          have hbx1 := cell_below hbx1 hd12
          have hbq := hbq.below hd12
          have hd12n := hd11n.trans (hd12.mono hd11n.size)
          refine w_nil ?_
          refine h_on ⟨hbx1, ?_⟩
          refine h_one 7 ?_
          refine s_call1 (wn rfl) rfl rfl (l02Least_any _ _ _ ho6.rl hfm) ?_
          rintro _ u13 ⟨y7, rfl, ho7, hd13⟩
          rw [hxe] at ho7
          have hv1 := hv1.below hd13
          have hx1 := hx1.below hd13
          have hbx1 := cell_below hbx1 hd13
          have hbq := hbq.below hd13
          have ho6 := ho6.below hd13
          have hd13n := hd12n.trans (hd13.mono hd12n.size)
          refine w_nil ?_
          refine h_on ⟨hbx1, ?_⟩
          refine h_one 9 ?_
          refine s_storeBox (wn rfl) rfl rfl ho7.sv.one hbq (fun u14 hbq2 hgz => ?_)
          have ho8 := ho7.boxE hbq (by decide) (by decide) hgz
          have hbx8 := cell_kept hbx1 hgz (fun e => by have h1 := Option.some.inj e; have h2 := hbq.low; omega)
          have hdz := hd13n.trans (hbq.below_of hgz hd13n.size)
          refine w_nil ?_
          refine h_on ⟨hbx8, ?_⟩
          refine h_nil ?_
          exact ⟨rfl, rfl, rfl, rfl, rfl, rfl, rfl, p12, _, _, _, rfl, hbq2, ho8, hdz⟩
      · skip
        refine s_alloc (B := u1.heap.size) (wn rfl) rfl cr.size (fun u15 p12 hbq hgq15 _ => ?_)
        have hd15 := below_of_grownBy hgq15
        have hv1 := hv1.below hd15
        have hx1 := hx1.below hd15
        have hbx1 := cell_below hbx1 hd15
        have hd15n := cr.trans (hd15.mono cr.size)
        refine w_nil ?_
        refine h_on ⟨hbx1, ?_⟩
        refine h_one 3 ?_
        refine s_call2 (wn rfl) rfl rfl rfl (l01Index_any _ _ _ _ hx1.il) ?_
        rintro _ _ ⟨rfl, rfl⟩
        refine w_nil ?_
        refine h_on ⟨hbx1, ?_⟩
        refine h_one 6 ?_
        refine s_call4 (wn rfl) rfl rfl rfl rfl rfl (l04Section_any _ _ (nf ms) _ i k _ hv1 hm.syst ⟨i0, i1⟩ hi (by omega) (by omega)) ?_
        rintro _ u17 ⟨y6, rfl, ho6, hd17⟩
        have hAe : (ms.take (k + 1).toNat).drop i.toNat = A := hAg
        rw [hAe] at ho6
        have hv1 := hv1.below hd17
        have hx1 := hx1.below hd17
        have hbx1 := cell_below hbx1 hd17
        have hbq := hbq.below hd17
        have hd17n := hd15n.trans (hd17.mono hd15n.size)
        refine w_nil ?_
        refine h_on ⟨hbx1, ?_⟩
        refine h_one 7 ?_
        refine s_call1 (wn rfl) rfl rfl (l02Least_any _ _ _ ho6.rl hfm) ?_
        rintro _ u18 ⟨y7, rfl, ho7, hd18⟩
        rw [hxe] at ho7
        have hv1 := hv1.below hd18
        have hx1 := hx1.below hd18
        have hbx1 := cell_below hbx1 hd18
        have hbq := hbq.below hd18
        have ho6 := ho6.below hd18
        have hd18n := hd17n.trans (hd18.mono hd17n.size)
        refine w_nil ?_
        refine h_on ⟨hbx1, ?_⟩
        refine h_one 9 ?_
        refine s_storeBox (wn rfl) rfl rfl ho7.sv.one hbq (fun u19 hbq2 hgz => ?_)
        have ho8 := ho7.boxE hbq (by decide) (by decide) hgz
        have hbx8 := cell_kept hbx1 hgz (fun e => by have h1 := Option.some.inj e; have h2 := hbq.low; omega)
        have hdz := hd18n.trans (hbq.below_of hgz hd18n.size)
        refine w_nil ?_
        refine h_on ⟨hbx8, ?_⟩
        refine h_nil ?_
        exact ⟨rfl, rfl, rfl, rfl, rfl, rfl, rfl, p12, _, _, _, rfl, hbq2, ho8, hdz⟩
    · skip
      rintro r u9 ⟨g1, g2, g3, g8, g9, g10, g11, p12, x, Bq, Eq, g12, hbq, hox, hd9⟩
      have zd9 := hd9.size
      replace hra := hra.below hd9
      replace hEa := hEa.below hd9
      replace hrb := hrb.below hd9
      replace hEb := hEb.below hd9
      have sox := hox.sv
      have hcx := hbq.cell
      clear hv1 hx1 hbx1
      refine know (t := 1) g1 ?_; refine know (t := 2) g2 ?_; refine know (t := 3) g3 ?_; refine know (t := 8) g8 ?_; refine know (t := 9) g9 ?_; refine know (t := 10) g10 ?_; refine know (t := 11) g11 ?_; refine know (t := 12) g12 ?_
      refine go ?_
      refine s_buildE (B := u9.heap.size) [x] (wn rfl) rfl rfl (by decide) rfl (by simpa using sox.one) (Nat.le_refl _) (fun tb u10 htb hg10 _ => ?_)
      have hd10 := below_of_grownBy hg10
      replace hra := hra.below hd10
      replace hEa := hEa.below hd10
      replace hrb := hrb.below hd10
      replace hEb := hEb.below hd10
      replace hbq := hbq.below hd10
      replace hox := hox.below hd10
      have zd10 := hd10.size
      refine go ?_
      refine s_appendE (wn rfl) rfl rfl rfl hra htb.rd (by simpa using sox.one) (by simp; omega) (by omega) (fun ra' u11 hra' hg11 hown => ?_)
      have hd11 := hg11.size
      have hlb' := (hrb.lt)
      have hbr : ∀ g, ra.ownBlock = some g → g < u1.heap.size := fun g hg => hralt g hg
      have hrb2 := hrb.kept hg11 (by
        cases hob : rb.ownBlock with
        | none => exact .inl rfl
        | some g => exact .inr (fun e => hap g e.symm hob))
      have hEb2 := hEb.kept hra (by decide) (by decide) hg11
      have hEa2 := (hEa.kept hra (by decide) (by decide) hg11).app (Els.single (hox.kept_type hra (by decide) (by decide) hg11))
      have hox2 := hox.kept_type hra (by decide) (by decide) hg11
      have hbq2 := hbq.kept hg11 (fun e => by have h1 := hbr _ e; have h2 := hbq.low; omega)
      have hap2 : ∀ g, ra'.ownBlock = some g → rb.ownBlock ≠ some g := fun g h1 h2 => by
        rcases hown with h3 | h3
        · rw [h3] at h1; exact hap g h1 h2
        · rw [h3] at h1
          have h4 := Option.some.inj h1
          have h5 := (hrb.lt g h2).2
          omega
      have hc11 : Below w4.heap.size w4 u11 := ((hc.trans (hd9.mono zc)).trans (hd10.mono (by omega))).trans (grownBy_below hg11 (by omega) (fun g hg => (hra.lt g hg).1))
      clear hra hEa hrb hEb hap hbq hox hcx
      have hra := hra'
      have hrb := hrb2
      have hEb := hEb2
      have hox := hox2
      have hbq := hbq2
      clear hra' hrb2 hEb2 hox2 hbq2
      rw [← e1] at hEa2
      refine go ?_
      refine w_loop (fun kk fr w' => ∃ (q : Nat), kk = F.length - q ∧ q ≤ F.length ∧ fr 1 = .int .i64 i ∧ fr 2 = .int .i64 k ∧ fr 3 = .pointer (some p) ∧ fr 8 = lb ∧ fr 9 = ra' ∧ fr 10 = rb ∧ fr 11 = .int .i64 o ∧ fr 12 = .pointer (some p12) ∧ fr 13 = .int .i64 q ∧ (∀ j, j < q → befM (F.getD j []) xx = true) ∧ Below u11.heap.size u11 w') F.length
        ⟨0, rfl, Nat.zero_le _, rfl, rfl, rfl, rfl, rfl, rfl, rfl, rfl, rfl, fun j hj => by omega, Below.refl _ _⟩ ?_
      rintro kk fr u12 ⟨q, rfl, hqF, g1, g2, g3, g8, g9, g10, g11, g12, g13, hbef, hd12⟩
      replace hra := hra.below hd12
      replace hEa2 := hEa2.below hd12
      replace hrb := hrb.below hd12
      replace hEb := hEb.below hd12
      replace hbq := hbq.below hd12
      replace hox := hox.below hd12
      replace hc11 := hc11.trans (hd12.mono hc11.size)
      refine know (t := 1) g1 ?_; refine know (t := 2) g2 ?_; refine know (t := 3) g3 ?_; refine know (t := 8) g8 ?_; refine know (t := 9) g9 ?_; refine know (t := 10) g10 ?_; refine know (t := 11) g11 ?_; refine know (t := 12) g12 ?_; refine know (t := 13) g13 ?_
      refine go ?_
      refine meet (fun r w' => r 1 = .int .i64 i ∧ r 2 = .int .i64 k ∧ r 3 = .pointer (some p) ∧ r 8 = lb ∧ r 9 = ra' ∧ r 10 = rb ∧ r 11 = .int .i64 o ∧ r 12 = .pointer (some p12) ∧ r 13 = .int .i64 q ∧ r 58 = .bool (decide (q < F.length) && befM (F.getD q []) xx) ∧ Below u12.heap.size u12 w') ?_ ?_
      · by_cases hq : q < F.length
        · have hqv : q < vb.length := by omega
          obtain ⟨_, _, hu⟩ := hEb.row q (vb.getD q undef) (F.getD q []) (by simp [List.getD, hqv]) (by simp [List.getD, hq])
          have hcu : u12.cell? (addrOf rb ((q : Int)).toNat) = some (vb.getD q undef) := by
            rw [show ((q : Int)).toNat = q by omega]
            exact hrb.rd.cell (by simp [List.getD, hqv])
          have hru := hu.rl
          have hcx := hbq.cell
          have hrx := hox.rl
          have hdt : decide ((q : Int) < (F.length : Int)) = true := decide_eq_true (by omega)
          refine region_hS (fun w' => w'.cell? (addrOf rb ((q : Int)).toNat) = some (vb.getD q undef) ∧ w'.cell? p12 = some x) mixed (fun y1 cr => ?_)
          replace hcu := cell_below hcu cr
          replace hcx := cell_below hcx cr
          replace hru := hru.below cr
          replace hrx := hrx.below cr
          refine h_p 0 ⟨hcu, hcx⟩ ?_ (hrun := fun w' h => by obtain ⟨h1, h2⟩ := h; exact yl)
          refine h_p 1 ⟨hcu, hcx⟩ ?_ (hrun := fun w' h => by obtain ⟨h1, h2⟩ := h; exact yl)
          refine h_p 2 ⟨hcu, hcx⟩ ?_ (hrun := fun w' h => by obtain ⟨h1, h2⟩ := h; exact yl)
          refine h_p 3 ⟨hcu, hcx⟩ ?_ (hrun := fun w' h => by obtain ⟨h1, h2⟩ := h; exact yl)
          rw [hdt]
          refine h_p 4 ⟨hcu, hcx⟩ ?_ (hrun := fun w' h => by obtain ⟨h1, h2⟩ := h; exact yl)
          refine h_p 5 ⟨hcu, hcx⟩ ?_ (hrun := fun w' h => by obtain ⟨h1, h2⟩ := h; exact yl)
          refine h_p 6 ⟨hcu, hcx⟩ ?_ (hrun := fun w' h => by obtain ⟨h1, h2⟩ := h; exact yl)
          refine h_p 7 ⟨hcu, hcx⟩ ?_ (hrun := fun w' h => y_idxSE rfl rfl srb (by omega) (by omega))
          refine h_p 8 ⟨hcu, hcx⟩ ?_ (hrun := fun w' h => by obtain ⟨h1, h2⟩ := h; exact yl)
          refine h_p 9 ⟨hcu, hcx⟩ ?_ (hrun := fun w' h => by obtain ⟨h1, h2⟩ := h; exact yl)
          refine h_one 10 ?_
          refine s_call2 (wy rfl rfl rfl rfl rfl known) rfl rfl rfl (l04Before_any _ _ _ _ _ hru hrx (hall q hqv) hxr1) ?_
          rintro _ y2 ⟨rfl, hd2⟩
          replace hcu := cell_below hcu hd2
          replace hcx := cell_below hcx hd2
          refine w_nil ?_
          refine h_on ⟨⟨hcu, hcx⟩, ?_⟩
          refine h_p 11 ⟨hcu, hcx⟩ ?_ (hrun := fun w' h => y_pick_true rfl known rfl)
          refine h_nil ?_
          exact ⟨rfl, rfl, rfl, rfl, rfl, rfl, rfl, rfl, rfl, by show Value.bool _ = _; simp [hq], cr.trans (hd2.mono cr.size)⟩
        · have hdt : decide ((q : Int) < (F.length : Int)) = false := decide_eq_false (by omega)
          refine region_hS (fun w' => True) mixed (fun y1 cr => ?_)
          refine h_p 0 trivial ?_ (hrun := fun w' h => yl)
          refine h_p 1 trivial ?_ (hrun := fun w' h => yl)
          refine h_p 2 trivial ?_ (hrun := fun w' h => yl)
          refine h_p 3 trivial ?_ (hrun := fun w' h => yl)
          rw [hdt]
          refine h_p 4 trivial ?_ (hrun := fun w' h => yl)
          refine h_no 5 trivial ?_
          refine h_no 6 trivial ?_
          refine h_no 7 trivial ?_
          refine h_no 8 trivial ?_
          refine h_no 9 trivial ?_
          refine h_no 10 trivial ?_
          refine h_p 11 trivial ?_ (hrun := fun w' h => y_pick_false rfl known rfl)
          refine h_nil ?_
          exact ⟨rfl, rfl, rfl, rfl, rfl, rfl, rfl, rfl, rfl, by show Value.bool _ = _; simp [hq], cr⟩
      · skip
        rintro r u13 ⟨g1, g2, g3, g8, g9, g10, g11, g12, g13, g58, hd13⟩
        replace hra := hra.below hd13
        replace hEa2 := hEa2.below hd13
        replace hrb := hrb.below hd13
        replace hEb := hEb.below hd13
        replace hbq := hbq.below hd13
        replace hox := hox.below hd13
        replace hc11 := hc11.trans (hd13.mono hc11.size)
        refine know (t := 1) g1 ?_; refine know (t := 2) g2 ?_; refine know (t := 3) g3 ?_; refine know (t := 8) g8 ?_; refine know (t := 9) g9 ?_; refine know (t := 10) g10 ?_; refine know (t := 11) g11 ?_; refine know (t := 12) g12 ?_; refine know (t := 13) g13 ?_; refine know (t := 58) g58 ?_
        refine splitb (decide (q < F.length) && befM (F.getD q []) xx) (fun hbb => ?_) (fun hbb => ?_)
        · have hbb2 : q < F.length ∧ befM (F.getD q []) xx = true := by simpa using hbb
          refine go ?_
          exact ⟨F.length - (q + 1), by omega, q + 1, rfl, by omega, rfl, rfl, rfl, rfl, rfl, rfl, rfl, rfl, rfl, fun j hj => by by_cases hjq : j = q; (subst hjq; exact hbb2.2); exact hbef j (by omega), hd12.trans (hd13.mono hd12.size)⟩
        have hat := insM_at F xx q hqF hbef hbb
        refine go ?_
        refine meet (fun r w' => r 1 = .int .i64 i ∧ r 2 = .int .i64 k ∧ r 3 = .pointer (some p) ∧ r 8 = lb ∧ r 9 = ra' ∧ r 10 = rb ∧ r 11 = .int .i64 o ∧ r 12 = .pointer (some p12) ∧ r 13 = .int .i64 q ∧ r 72 = .bool (decide (q < F.length) && decide (F.getD q [] = xx)) ∧ Below u13.heap.size u13 w') ?_ ?_
        · by_cases hq : q < F.length
          · have hqv : q < vb.length := by omega
            obtain ⟨_, _, hu⟩ := hEb.row q (vb.getD q undef) (F.getD q []) (by simp [List.getD, hqv]) (by simp [List.getD, hq])
            have hcu : u13.cell? (addrOf rb ((q : Int)).toNat) = some (vb.getD q undef) := by
              rw [show ((q : Int)).toNat = q by omega]
              exact hrb.rd.cell (by simp [List.getD, hqv])
            have hru := hu.rl
            have hcx := hbq.cell
            have hrx := hox.rl
            have hdt : decide ((q : Int) < (F.length : Int)) = true := decide_eq_true (by omega)
            refine region_hS (fun w' => w'.cell? (addrOf rb ((q : Int)).toNat) = some (vb.getD q undef) ∧ w'.cell? p12 = some x) mixed (fun y1 cr => ?_)
            replace hcu := cell_below hcu cr
            replace hcx := cell_below hcx cr
            replace hru := hru.below cr
            replace hrx := hrx.below cr
            refine h_p 0 ⟨hcu, hcx⟩ ?_ (hrun := fun w' h => by obtain ⟨h1, h2⟩ := h; exact yl)
            refine h_p 1 ⟨hcu, hcx⟩ ?_ (hrun := fun w' h => by obtain ⟨h1, h2⟩ := h; exact yl)
            refine h_p 2 ⟨hcu, hcx⟩ ?_ (hrun := fun w' h => by obtain ⟨h1, h2⟩ := h; exact yl)
            refine h_p 3 ⟨hcu, hcx⟩ ?_ (hrun := fun w' h => by obtain ⟨h1, h2⟩ := h; exact yl)
            rw [hdt]
            refine h_p 4 ⟨hcu, hcx⟩ ?_ (hrun := fun w' h => by obtain ⟨h1, h2⟩ := h; exact yl)
            refine h_p 5 ⟨hcu, hcx⟩ ?_ (hrun := fun w' h => by obtain ⟨h1, h2⟩ := h; exact yl)
            refine h_p 6 ⟨hcu, hcx⟩ ?_ (hrun := fun w' h => by obtain ⟨h1, h2⟩ := h; exact yl)
            refine h_p 7 ⟨hcu, hcx⟩ ?_ (hrun := fun w' h => y_idxSE rfl rfl srb (by omega) (by omega))
            refine h_p 8 ⟨hcu, hcx⟩ ?_ (hrun := fun w' h => by obtain ⟨h1, h2⟩ := h; exact yl)
            refine h_p 9 ⟨hcu, hcx⟩ ?_ (hrun := fun w' h => by obtain ⟨h1, h2⟩ := h; exact yl)
            refine h_one 10 ?_
            refine s_call2 (wy rfl rfl rfl rfl rfl known) rfl rfl rfl (l02Same_any _ _ _ _ _ hru hrx) ?_
            rintro _ y2 ⟨rfl, hd2⟩
            replace hcu := cell_below hcu hd2
            replace hcx := cell_below hcx hd2
            refine w_nil ?_
            refine h_on ⟨⟨hcu, hcx⟩, ?_⟩
            refine h_p 11 ⟨hcu, hcx⟩ ?_ (hrun := fun w' h => y_pick_true rfl known rfl)
            refine h_nil ?_
            exact ⟨rfl, rfl, rfl, rfl, rfl, rfl, rfl, rfl, rfl, by show Value.bool _ = _; simp [hq], cr.trans (hd2.mono cr.size)⟩
          · have hdt : decide ((q : Int) < (F.length : Int)) = false := decide_eq_false (by omega)
            refine region_hS (fun w' => True) mixed (fun y1 cr => ?_)
            refine h_p 0 trivial ?_ (hrun := fun w' h => yl)
            refine h_p 1 trivial ?_ (hrun := fun w' h => yl)
            refine h_p 2 trivial ?_ (hrun := fun w' h => yl)
            refine h_p 3 trivial ?_ (hrun := fun w' h => yl)
            rw [hdt]
            refine h_p 4 trivial ?_ (hrun := fun w' h => yl)
            refine h_no 5 trivial ?_
            refine h_no 6 trivial ?_
            refine h_no 7 trivial ?_
            refine h_no 8 trivial ?_
            refine h_no 9 trivial ?_
            refine h_no 10 trivial ?_
            refine h_p 11 trivial ?_ (hrun := fun w' h => y_pick_false rfl known rfl)
            refine h_nil ?_
            exact ⟨rfl, rfl, rfl, rfl, rfl, rfl, rfl, rfl, rfl, by show Value.bool _ = _; simp [hq], cr⟩
        · skip
          rintro r u14 ⟨g1, g2, g3, g8, g9, g10, g11, g12, g13, g72, hd14⟩
          replace hra := hra.below hd14
          replace hEa2 := hEa2.below hd14
          replace hrb := hrb.below hd14
          replace hEb := hEb.below hd14
          replace hbq := hbq.below hd14
          replace hox := hox.below hd14
          replace hc11 := hc11.trans (hd14.mono hc11.size)
          refine know (t := 1) g1 ?_; refine know (t := 2) g2 ?_; refine know (t := 3) g3 ?_; refine know (t := 8) g8 ?_; refine know (t := 9) g9 ?_; refine know (t := 10) g10 ?_; refine know (t := 11) g11 ?_; refine know (t := 12) g12 ?_; refine know (t := 13) g13 ?_; refine know (t := 72) g72 ?_
          refine splitb (decide (q < F.length) && decide (F.getD q [] = xx)) (fun hsm => ?_) (fun hsm => ?_)
          · rw [if_pos hsm] at hat
            refine go ?_
            exact ⟨m - (o + 1), by omega, o + 1, _, _, _, _, rfl, by omega, rfl, rfl, rfl, rfl, rfl, rfl, rfl, hra, hEa2, hrb, by rw [e1, hins, hat]; exact hEb, hap2, hc11⟩
          rw [if_neg (by rw [hsm]; simp)] at hat
          have hcx := hbq.cell
          have hrblt : ∀ g, rb.ownBlock = some g → g < u14.heap.size := fun g hg => (hrb.lt g hg).2
          have hpqlt := hbq.lt
          refine go ?_
          refine region_hS (fun w' => w'.cell? p12 = some x ∧ Own w' w4.heap.size 26 rb vb) mixed (fun u15 cr => ?_)
          replace hcx := cell_below hcx cr
          replace hrb := hrb.below cr
          have zr := cr.size
          refine h_p 0 ⟨hcx, hrb⟩ ?_ (hrun := fun w' h => by obtain ⟨h1, h2⟩ := h; exact yl)
          refine h_p 2 ⟨hcx, hrb⟩ ?_ (hrun := fun w' h => by obtain ⟨h1, h2⟩ := h; exact yl)
          refine h_p 3 ⟨hcx, hrb⟩ ?_ (hrun := fun w' h => by obtain ⟨h1, h2⟩ := h; exact yl)
          refine h_p 4 ⟨hcx, hrb⟩ ?_ (hrun := fun w' h => y_cut_loE rfl rfl h.2.rd (by omega) (by omega))
          refine h_one 1 ?_
          refine s_buildE (B := u14.heap.size) [x] (wn rfl) rfl rfl (by decide) rfl (by simpa using sox.one) zr (fun tc u16 htc hg16 _ => ?_)
          have hd16 := below_of_grownBy hg16
          replace hcx := cell_below hcx hd16
          replace hrb := hrb.below hd16
          have cr16 := cr.trans (hd16.mono zr)
          refine w_nil ?_
          refine h_on ⟨⟨hcx, hrb⟩, ?_⟩
          refine h_one 5 ?_
          have hone := hEb.one
          have hct := hrb.rd.cut (l := q) (r := vb.length) (by omega) (Nat.le_refl _)
          rw [List.take_length] at hct
          have heq : ((q : Int)).toNat = q := by omega
          rw [heq]
          refine s_appendE (wn rfl) rfl rfl rfl htc hct (fun u hu => hone u (List.mem_of_mem_drop hu)) (by simp; omega) cr16.size (fun td u17 htd hg17 _ => ?_)
          have cr17 := cr16.trans (grownBy_below hg17 cr16.size (fun g hg => (htc.lt g hg).1))
          have hd17 : Below u16.heap.size u16 u17 ∨ True := .inr trivial
          have hrb17 := hrb.kept hg17 (by
            cases hob : rb.ownBlock with
            | none => exact .inl rfl
            | some g => exact .inr (fun e => by have h1 := (htc.lt g e.symm).1; have h2 := hrblt g hob; omega))
          have hcx17 := cell_kept hcx hg17 (fun e => by have h1 := (htc.lt _ e.symm).1; have h2 := hpqlt; omega)
          refine w_nil ?_
          refine h_on ⟨⟨hcx17, hrb17⟩, ?_⟩
          refine h_p 6 ⟨hcx17, hrb17⟩ ?_ (hrun := fun w' h => by obtain ⟨h1, h2⟩ := h; exact yl)
          refine h_nil ?_
          clear hrb
          have hra17 := hra.below cr17
          have hEa17 := hEa2.below cr17
          have hEb17 := hEb.below cr17
          have hox17 := hox.below cr17
          have hc17 := hc11.trans (cr17.mono hc11.size)
          have zq := cr17.size
          have zc17 := hc17.size
          refine go ?_
          refine s_buildE (B := u17.heap.size) [] (wn rfl) rfl rfl (by decide) rfl (by simp) (Nat.le_refl _) (fun te u18 hte hg18 _ => ?_)
          have hd18 := below_of_grownBy hg18
          have hrb18 := hrb17.below hd18
          have htd18 := htd.below hd18
          have zq18 := hd18.size
          refine go ?_
          refine s_p (wn rfl) rfl (y_cut_hiE rfl rfl hrb18.rd (by omega) (by omega)) ?_
          rw [heq]
          have hct2 := hrb18.rd.cut (l := 0) (r := q) (by omega) (by omega)
          rw [List.drop_zero] at hct2
          refine go ?_
          refine s_appendE (wn rfl) rfl rfl rfl hte hct2 (fun u hu => hone u (List.mem_of_mem_take hu)) (by simp; omega) zq18 (fun tf u19 htf hg19 _ => ?_)
          have hd19 := hd18.trans (grownBy_below hg19 hd18.size (fun g hg => (hte.lt g hg).1))
          have htd19 := htd.below hd19
          refine go ?_
          refine s_appendE (wn rfl) rfl rfl rfl htf htd19.rd (by intro u hu; simp at hu; rcases hu with h | h; (rw [h]; exact sox.one); exact hone u (List.mem_of_mem_drop h)) (by simp; omega) hd19.size (fun tg u20 htg hg20 _ => ?_)
          have hd20 := hd19.trans (grownBy_below hg20 hd19.size (fun g hg => (htf.lt g hg).1))
          have zq20 := hd20.size
          refine go ?_
          refine ⟨m - (o + 1), by omega, o + 1, ra', tg, _, _, rfl, by omega, rfl, rfl, rfl, rfl, rfl, rfl, rfl, hra17.below hd20, hEa17.below hd20, htg.mono (by omega), ?_, fun g h1 h2 => ?_, hc17.trans (hd20.mono zc17)⟩
          · rw [e1, hins, hat]
            have h3 := (hEb17.take q).app ((Els.single hox17).app (hEb17.drop q))
            have h4 := h3.below hd20
            simpa using h4
          · have h3 := (hra17.lt g h1).2
            have h4 := (htg.lt g h2).1
            omega
  obtain rfl : o = m := by omega
  have hto : (secO (nf ms) A).take (labc (nf ms) A).toNat = secO (nf ms) A := List.take_of_length_le (by omega)
  rw [show o = (labc (nf ms) A).toNat by omega, hto] at hEa hEb
  have hal2 : va.length = (labc (nf ms) A).toNat := by omega
  have hsF : fmsM (secO (nf ms) A) = secF (nf ms) A := rfl
  rw [hsF] at hEb
  have hbl2 := hEb.len
  have srb := hrb.sv
  have sra := hra.sv
  have hkl : (secK (nf ms) A).length = nf ms := by simp [secK, hll]
  refine go ?_
  refine s_build0 (B := u1.heap.size) (wn rfl) rfl (Nat.le_refl _) (fun ky u2 hky sky hg2 _ => ?_)
  have hd2 := below_of_grownBy hg2
  refine go ?_
  refine w_loop (fun kk fr w' => ∃ (t : Nat) (ky : Value), kk = nf ms - t ∧ t ≤ nf ms ∧ fr 8 = lb ∧ fr 9 = ra ∧ fr 10 = rb ∧ fr 15 = ky ∧ fr 16 = .int .i64 t ∧ OI w' u1.heap.size 2 ky ((secK (nf ms) A).take t) ∧ Below u1.heap.size u1 w') (nf ms)
    ⟨0, _, rfl, Nat.zero_le _, rfl, rfl, rfl, rfl, rfl, hky, hd2⟩ ?_
  clear hky hd2 hg2
  rintro kk fr u3 ⟨t, ky, rfl, ht, f8, f9, f10, f15, f16, hky, hd3⟩
  have hx3 := hx1.below hd3
  have sx3 := hx3.sv
  rw [hll] at sx3
  refine know (t := 8) f8 ?_; refine know (t := 9) f9 ?_; refine know (t := 10) f10 ?_; refine know (t := 15) f15 ?_; refine know (t := 16) f16 ?_
  refine go ?_
  refine cond_dec rfl (fun hlt => ?_) (fun hge2 => ?_)
  · have hgl := hL.rng t (by omega) (by omega)
    have hgd := hL.done t (by omega) (by omega) (by omega)
    have hlt2 : (gi (labs (nf ms) A) t).toNat < va.length := by omega
    have hin : (secO (nf ms) A).getD (gi (labs (nf ms) A) t).toNat [] ∈ secF (nf ms) A := by
      refine ((fmsM_ok (secO (nf ms) A)).2 _).2 ?_
      have h2 : (gi (labs (nf ms) A) t).toNat < (secO (nf ms) A).length := by rw [hso]; omega
      simp [List.getD, h2]
    have egk : gi (secK (nf ms) A) t = (((secF (nf ms) A).idxOf ((secO (nf ms) A).getD (gi (labs (nf ms) A) t).toNat []) : Nat) : Int) := by
      unfold secK
      rw [gi_map (by omega) (by rw [hll]; omega)]
    generalize hae : (secO (nf ms) A).getD (gi (labs (nf ms) A) t).toNat [] = aa at *
    have hix := List.idxOf_lt_length_of_mem hin
    have hnd := fmsM_nodup (secO (nf ms) A)
    rw [hsF] at hnd
    refine go ?_
    refine w_loop (fun kk fr w' => ∃ (j : Nat) (ky : Value), kk = vb.length - j ∧ j ≤ vb.length ∧ fr 8 = lb ∧ fr 9 = ra ∧ fr 10 = rb ∧ fr 15 = ky ∧ fr 16 = .int .i64 t ∧ fr 17 = .int .i64 j ∧ OI w' u1.heap.size 2 ky ((secK (nf ms) A).take t ++ if (secF (nf ms) A).idxOf aa < j then [(((secF (nf ms) A).idxOf aa : Nat) : Int)] else []) ∧ Below u1.heap.size u1 w') vb.length
      ⟨0, ky, rfl, Nat.zero_le _, rfl, rfl, rfl, rfl, rfl, rfl, by simpa using hky, hd3⟩ ?_
    clear hky
    rintro kk fr u4 ⟨j, ky, rfl, hj, f8, f9, f10, f15, f16, f17, hky, hd4⟩
    have hx4 := hx1.below hd4
    have hra4 := hra.below hd4
    have hEa4 := hEa.below hd4
    have hrb4 := hrb.below hd4
    have hEb4 := hEb.below hd4
    refine know (t := 8) f8 ?_; refine know (t := 9) f9 ?_; refine know (t := 10) f10 ?_; refine know (t := 15) f15 ?_; refine know (t := 16) f16 ?_; refine know (t := 17) f17 ?_
    refine go ?_
    refine cond_dec rfl (fun hlt3 => ?_) (fun hge3 => ?_)
    · have hjv : j < vb.length := by omega
      have hjF : j < (secF (nf ms) A).length := by omega
      obtain ⟨_, _, hu⟩ := hEb4.row j (vb.getD j undef) ((secF (nf ms) A).getD j []) (by simp [List.getD, hjv]) (by simp [List.getD, hjF])
      have hcu : u4.cell? (addrOf rb ((j : Int)).toNat) = some (vb.getD j undef) := by
        rw [show ((j : Int)).toNat = j by omega]
        exact hrb4.rd.cell (by simp [List.getD, hjv])
      obtain ⟨_, _, hu2⟩ := hEa4.row (gi (labs (nf ms) A) t).toNat (va.getD (gi (labs (nf ms) A) t).toNat undef) aa (by simp [List.getD, hlt2]) (by rw [← hae]; simp [List.getD, hso, show (gi (labs (nf ms) A) t).toNat < (labc (nf ms) A).toNat by omega])
      have hcu2 : u4.cell? (addrOf ra (gi (labs (nf ms) A) t).toNat) = some (va.getD (gi (labs (nf ms) A) t).toNat undef) := hra4.rd.cell (by simp [List.getD, hlt2])
      have hru := hu.rl
      have hru2 := hu2.rl
      have hlx := hx4.il
      refine go ?_
      refine meet (fun r w' => r 8 = lb ∧ r 9 = ra ∧ r 10 = rb ∧ r 15 = ky ∧ r 16 = .int .i64 t ∧ r 17 = .int .i64 j ∧ r 110 = .bool (decide ((secF (nf ms) A).getD j [] = aa)) ∧ Below u4.heap.size u4 w') ?_ ?_
      · refine region_hS (fun w' => w'.cell? (addrOf rb ((j : Int)).toNat) = some (vb.getD j undef) ∧ w'.cell? (addrOf ra (gi (labs (nf ms) A) t).toNat) = some (va.getD (gi (labs (nf ms) A) t).toNat undef) ∧ IL w' lb (labs (nf ms) A)) mixed (fun u5 cr => ?_)
        replace hcu := cell_below hcu cr
        replace hcu2 := cell_below hcu2 cr
        replace hlx := hlx.below cr
        replace hru := hru.below cr
        replace hru2 := hru2.below cr
        refine h_p 0 ⟨hcu, hcu2, hlx⟩ ?_ (hrun := fun w' h => by obtain ⟨h1, h2, h3⟩ := h; exact yl)
        refine h_p 1 ⟨hcu, hcu2, hlx⟩ ?_ (hrun := fun w' h => by obtain ⟨h1, h2, h3⟩ := h; exact yl)
        refine h_p 2 ⟨hcu, hcu2, hlx⟩ ?_ (hrun := fun w' h => y_idxSE rfl rfl srb (by omega) (by omega))
        refine h_p 3 ⟨hcu, hcu2, hlx⟩ ?_ (hrun := fun w' h => by obtain ⟨h1, h2, h3⟩ := h; exact yl)
        refine h_p 4 ⟨hcu, hcu2, hlx⟩ ?_ (hrun := fun w' h => by obtain ⟨h1, h2, h3⟩ := h; exact yl)
        refine h_p 5 ⟨hcu, hcu2, hlx⟩ ?_ (hrun := fun w' h => by obtain ⟨h1, h2, h3⟩ := h; exact yl)
        refine h_p 6 ⟨hcu, hcu2, hlx⟩ ?_ (hrun := fun w' h => by obtain ⟨h1, h2, h3⟩ := h; exact yl)
        refine h_p 7 ⟨hcu, hcu2, hlx⟩ ?_ (hrun := fun w' h => by obtain ⟨h1, h2, h3⟩ := h; exact yl)
        refine h_p 8 ⟨hcu, hcu2, hlx⟩ ?_ (hrun := fun w' h => by obtain ⟨h1, h2, h3⟩ := h; exact yl)
        refine h_p 9 ⟨hcu, hcu2, hlx⟩ ?_ (hrun := fun w' h => y_idxSE rfl rfl sra (by omega) (by omega))
        refine h_p 10 ⟨hcu, hcu2, hlx⟩ ?_ (hrun := fun w' h => by obtain ⟨h1, h2, h3⟩ := h; exact yl)
        refine h_one 11 ?_
        refine s_call2 (wn rfl) rfl rfl rfl (l02Same_any _ _ _ _ _ hru hru2) ?_
        rintro _ u6 ⟨rfl, hd6⟩
        refine w_nil ?_
        refine h_on ⟨⟨cell_below hcu hd6, cell_below hcu2 hd6, hlx.below hd6⟩, ?_⟩
        refine h_nil ?_
        exact ⟨rfl, rfl, rfl, rfl, rfl, rfl, rfl, cr.trans (hd6.mono cr.size)⟩
      · rintro r u7 ⟨f8, f9, f10, f15, f16, f17, f110, hd7⟩
        have hky7 := hky.below hd7
        have hd47 := hd4.trans (hd7.mono hd4.size)
        have z47 := hd47.size
        refine know (t := 8) f8 ?_; refine know (t := 9) f9 ?_; refine know (t := 10) f10 ?_; refine know (t := 15) f15 ?_; refine know (t := 16) f16 ?_; refine know (t := 17) f17 ?_; refine know (t := 110) f110 ?_
        refine splitb (decide ((secF (nf ms) A).getD j [] = aa)) (fun hsm => ?_) (fun hsm => ?_)
        · have hsm2 := of_decide_eq_true hsm
          have hji : (secF (nf ms) A).idxOf aa = j := by
            have h1 : (secF (nf ms) A)[j] = aa := by simpa [List.getD, hjF] using hsm2
            rw [← h1]
            exact List.Nodup.idxOf_getElem hnd j hjF
          have sky := hky7.sv
          refine go ?_
          refine s_build1 (B := u7.heap.size) (wn rfl) rfl rfl (Nat.le_refl _) (fun tb u8 htb stb hg8 _ => ?_)
          have hd8 := below_of_grownBy hg8
          have hky8 := hky7.below hd8
          have hd48 := hd47.trans (hd8.mono z47)
          refine go ?_
          refine s_appendI (wn rfl) rfl rfl rfl hky8 htb.il (by simp [hkl]; split <;> simp <;> omega) hd48.size (fun ky' u9 hky9 so hg9 _ => ?_)
          have hd49 := hd48.trans (hky8.below_of hg9 hd48.size)
          refine go ?_
          refine ⟨vb.length - (j + 1), by omega, j + 1, ky', rfl, by omega, rfl, rfl, rfl, rfl, rfl, rfl, ?_, hd49⟩
          rw [hji] at hky9 ⊢
          rw [if_pos (by omega)]
          simpa using hky9
        · have hsm2 := of_decide_eq_false hsm
          have hji : (secF (nf ms) A).idxOf aa ≠ j := fun h => by
            have h1 := List.getElem_idxOf hix
            apply hsm2
            simp only [List.getD, List.getElem?_eq_getElem hjF, Option.getD_some]
            rw [← h1]
            congr 1
            exact h.symm
          refine go ?_
          refine ⟨vb.length - (j + 1), by omega, j + 1, ky, rfl, by omega, rfl, rfl, rfl, rfl, rfl, rfl, ?_, hd47⟩
          have e : (if (secF (nf ms) A).idxOf aa < j + 1 then [(((secF (nf ms) A).idxOf aa : Nat) : Int)] else []) = if (secF (nf ms) A).idxOf aa < j then [(((secF (nf ms) A).idxOf aa : Nat) : Int)] else [] := by
            by_cases h : (secF (nf ms) A).idxOf aa < j
            · rw [if_pos h, if_pos (by omega)]
            · rw [if_neg h, if_neg (by omega)]
          rw [e]; exact hky7
    obtain rfl : j = vb.length := by omega
    rw [if_pos (by omega), ← egk, ← take_gi (by omega)] at hky
    refine go ?_
    exact ⟨nf ms - (t + 1), by omega, t + 1, ky, rfl, by omega, rfl, rfl, rfl, rfl, rfl, hky, hd4⟩
  obtain rfl : t = nf ms := by omega
  rw [List.take_of_length_le (by omega)] at hky
  have hrb3 := hrb.below hd3
  have hEb3 := hEb.below hd3
  have hbz := hbA.trans ((hc.trans (hd3.mono zc)).mono zA)
  refine go ?_
  exact end_two Tryz.results24 rfl rfl ⟨_, _, _, rfl, hrb3.mono zA, hEb3, hky.mono (by omega), hbz⟩
end Go.Proofs.YtinbiahmipfibaaGreat

/- Contracts: HasEqualVertexFigures and SectionKinds (the reference). -/
namespace Go.Proofs.YtinbiahmipfibaaGreat
open Go.Mem Go.RowKit
set_option linter.unusedVariables false
set_option linter.unusedSimpArgs false

set_option maxHeartbeats 8000000 in
set_option maxRecDepth 100000 in
theorem l04Code_any (v : Value) (ms : List (List Int)) (i k : Int) (w : World) (hv : RL w v ms) :
    Ret Tryz.prog 23 #[.agg #[v], .int .i64 0, .int .i64 i, .int .i64 k] w fun r w' => r = .int .i64 (skC ms i k) ∧ Below w.heap.size w w' := by
  have sv := hv.sv
  refine enter4 33 Tryz.func23 rfl Tryz.ntmps23 rfl (fun fr => ?_)
  refine go ?_
  refine s_box (wn rfl) rfl rfl (agg_cells sv) (fun w1 hbx _ hp1 hg => ?_)
  have hb := below_of_grownBy hg
  have hv := hv.below hb
  generalize hpe : (⟨w.heap.size, 0, none⟩ : Addr) = p at *
  refine go ?_
  refine s_call1 (wn rfl) rfl rfl (l02Is_any _ _ _ hv) ?_
  rintro _ w2 ⟨rfl, hb2⟩
  have hb := hb.trans (hb2.mono hb.size)
  have hbx := cell_below hbx hb2
  have hv := hv.below hb2
  refine splitb (decide (IsMan ms)) (fun hm => ?_) (fun hm => ?_)
  rotate_left
  · have e := sk_1 (i := i) (k := k) (of_decide_eq_false hm)
    refine go ?_
    exact end_one Tryz.results23 rfl ⟨by rw [e.2], hb⟩
  have hm' := of_decide_eq_true hm
  have r5 := hm'.m0.r5
  have r1 := hm'.m0.r1
  have f2 := hm'.m0.f2
  refine go ?_
  refine s_call2 (wn rfl) rfl rfl rfl (l02Flag_any _ _ _ _ hv r1 hm'.m0.f400) ?_
  rintro _ w3 ⟨rfl, hb3⟩
  have hb := hb.trans (hb3.mono hb.size)
  have hbx := cell_below hbx hb3
  have hv := hv.below hb3
  rw [decide_eq_true (show (0 : Int) ≤ 0 ∧ (0 : Int) < nf ms by omega)]
  by_cases h1 : i < 0
  · have hd : decide (i < 0) = true := decide_eq_true h1
    have e := sk_2 (i := i) (k := k) hm' (fun h => by have := h.1; omega)
    refine go ?_
    exact end_one Tryz.results23 rfl ⟨by rw [e.2], hb⟩
  have hd : decide (i < 0) = false := decide_eq_false h1
  by_cases h2 : k < i
  · have hd2 : decide (k < i) = true := decide_eq_true h2
    have e := sk_2 (i := i) (k := k) hm' (fun h => by have := h.2.1; omega)
    refine go ?_
    exact end_one Tryz.results23 rfl ⟨by rw [e.2], hb⟩
  have hd2 : decide (k < i) = false := decide_eq_false h2
  by_cases h3 : (ms.length : Int) - 1 < k
  · have hd3 : decide ((ms.length : Int) - 1 < k) = true := decide_eq_true h3
    have e := sk_2 (i := i) (k := k) hm' (fun h => by have := h.2.2; omega)
    refine go ?_
    exact end_one Tryz.results23 rfl ⟨by rw [e.2], hb⟩
  have hd3 : decide ((ms.length : Int) - 1 < k) = false := decide_eq_false h3
  have e := sk_3 (i := i) (k := k) hm' ⟨by omega, by omega, by omega⟩
  refine go ?_
  exact end_one Tryz.results23 rfl ⟨by rw [e.2], hb⟩

end Go.Proofs.YtinbiahmipfibaaGreat
