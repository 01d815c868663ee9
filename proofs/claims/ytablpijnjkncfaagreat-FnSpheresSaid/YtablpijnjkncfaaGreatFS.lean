/- Texts laid together: F93 P48 F112. -/
import Derived.Test.YtablpijnjkncfaaGreatSf
import Derived.Test.YtablpijnjkncfaaGreatLA
import Derived.Test.YtablpijnjkncfaaGreatP45
import Derived.Test.YtablpijnjkncfaaGreatF72
import Derived.Test.YtablpijnjkncfaaGreatF46
import Derived.Test.YtablpijnjkncfaaGreatPH
import Derived.Test.YtablpijnjkncfaaGreatF67
import Derived.Test.YtablpijnjkncfaaGreatLD
import Derived.Test.YtablpijnjkncfaaGreatFI
/- Contracts: sorting and compacting numbers, the sizes of orbits, the type of a maniplex. -/
namespace Go.Mem
open Go.RowKit
section
variable {P : Program} {n : Nat} {f : Fm} {w : World} {dst : Option Tmp} {ty : TypeId} {pos : String} {after : Array Edge} {g : Option (Nat × Bool)}
theorem y_cutR2 {x lo hi : Operand} {t e : TypeId} {z : Value} {bytes : Nat} [ht : SliceTy P t e] [he : CellTy P e z bytes] {v : Value} {xss : List (List Int)} {kl kh : IntKind} {l r : Int}
    (hx : lk n f x = some v) (hlo : lk n f lo = some (.int kl l)) (hhi : lk n f hi = some (.int kh r)) (h : RL w v xss) (h0 : 0 ≤ l) (hl : l ≤ r) (hr : r ≤ xss.length) :
    Yld P (evo n f) ⟨dst, .slice t x (some lo) (some hi) none, ty, pos, after, g⟩ w (cut v l.toNat r.toNat) := by
  obtain ⟨vs, h1, h2, _⟩ := h.out
  exact y_cut hx hlo hhi h1 h0 hl (by omega)
end
/-- the rows of a type -/
def typR (ms : List (List Int)) (i : Nat) : List Int := typRow ((typS ms i).map fun x => x / 2)
def typL (ms : List (List Int)) (k : Nat) : List (List Int) := (List.range k).map fun i : Nat => typR ms i
theorem typL_succ (ms : List (List Int)) (k : Nat) : typL ms (k + 1) = typL ms k ++ [typR ms k] := by simp [typL, List.range_succ]
theorem typL_len (ms : List (List Int)) (k : Nat) : (typL ms k).length = k := by simp [typL]
end Go.Mem
namespace Go.Proofs.YtablpijnjkncfaaGreat
open Go.Mem Go.RowKit
set_option linter.unusedVariables false
set_option linter.unusedSimpArgs false

theorem Sort_any (v : Value) (xs : List Int) (B : Nat) (w : World) (hv : OI w B 2 v xs) (hne : xs ≠ []) (hl : xs.length ≤ 1000000) :
    Ret Tryz.prog 111 #[v] w fun r w' => OI w' B 2 v (xs.mergeSort fun x y => decide (x ≤ y)) ∧ w.grownBy w' v.ownBlock := by
  obtain ⟨g, off, cap, rfl, hb, hlt, hc, hH⟩ := hv.place hne
  have hcon := AnyG.slices_Sort_int Tryz.laysSort g off cap xs w hH hlt (by omega)
  change Calls Tryz.prog 111 _ _ _ at hcon
  refine Calls.mono hcon ?_
  rintro e w' ⟨he, n, os, hw⟩
  subst he
  subst hw
  have hp := (List.mergeSort_perm xs (fun x y => decide (x ≤ y))).length_eq
  obtain ⟨h1, h2⟩ := hv.put hne hp n os (k := xs.length) (by omega)
  rw [List.take_of_length_le (by omega)] at h1
  exact ⟨_, rfl, h1, h2⟩

theorem Compact_any (v : Value) (xs : List Int) (B : Nat) (w : World) (hv : OI w B 2 v xs) (hne : xs ≠ []) (hl : xs.length ≤ 1000000) :
    Ret Tryz.prog 112 #[v] w fun r w' => OI w' B 2 r (Lib.compactUpTo xs.toArray xs.length) ∧ w.grownBy w' v.ownBlock := by
  obtain ⟨g, off, cap, rfl, hb, hlt, hc, hH⟩ := hv.place hne
  have hcon := AnyG.slices_Compact_int_arr Tryz.laysCompact g off cap xs.toArray w hH (by simp; omega) (by simpa using hc)
  change Calls Tryz.prog 112 _ _ _ at hcon
  have hsz : xs.toArray.size = xs.length := by simp
  rw [hsz] at hcon
  have hle : (Lib.compactUpTo xs.toArray xs.length).length ≤ xs.length := by
    unfold Lib.compactUpTo
    rw [List.length_map]
    refine Nat.le_trans (List.length_filter_le _ _) (by simp)
  refine Calls.mono hcon ?_
  rintro e w' ⟨he, q, hw⟩
  subst he
  obtain ⟨h1, h2⟩ := hv.put hne (zs := Lib.compactUpTo xs.toArray xs.length ++ List.replicate (xs.length - (Lib.compactUpTo xs.toArray xs.length).length) 0) (by simp; omega) q #[] (k := (Lib.compactUpTo xs.toArray xs.length).length) (by simp)
  rw [Sort.grow_empty] at h1 h2
  rw [List.take_left' rfl] at h1
  have hw2 : w' = Sort.putRow (Value.int .i64) (Sort.ahead w q) g off (Lib.compactUpTo xs.toArray xs.length ++ List.replicate (xs.length - (Lib.compactUpTo xs.toArray xs.length).length) 0).toArray := hw
  subst hw2
  exact ⟨_, rfl, h1, h2⟩

set_option maxHeartbeats 8000000 in
set_option maxRecDepth 100000 in
theorem orbitSizes_any (v : Value) (m : Int) (xss : List (List Int)) (w : World) (hv : RL w v xss) (n : Nat) (em : m = n) (hs : Sym n xss) (hN : n ≤ 400) (hM : xss.length ≤ 1000) :
    Ret Tryz.prog 110 #[.int .i64 m, v] w fun r w' => OI w' w.heap.size 2 r (szs (labs n xss) (labc n xss).toNat n) ∧ Below w.heap.size w w' := by
  have shv := hv.sv
  have hb := Below.refl w.heap.size w
  refine enter2 32 Tryz.func110 rfl Tryz.ntmps110 rfl (fun fr => ?_)
  subst em
  have hL := labs_all hs (by omega)
  have hll := hL.len
  have hc0 := hL.c0
  refine go ?_
  refine s_call2 (wn rfl) rfl rfl rfl (orbitLabels_any _ _ n _ hv hs (by omega) hM) ?_
  rintro _ w1 ⟨lb, rfl, hl, hb1⟩
  have sw1 := hb1.size
  replace hv := hv.below hb1
  replace hb := hb.trans (hb1.mono hb.size)
  have sl := hl.sv
  rw [hll] at sl
  have sbs1 := hb.size
  have hv_b1 := hv
  have hl_b1 := hl
  have hbB1 := Below.refl w1.heap.size w1
  refine go ?_
  have szq2 := hbB1.size
  refine s_makeI (B := w1.heap.size) (wn rfl) rfl rfl rfl (by omega) (by omega) szq2 (fun rb w2 ho soho hg2 _ => ?_)
  have hb2 := below_of_grownBy hg2
  have sw2 := hb2.size
  replace hv := hv.below hb2
  replace hl := hl.below hb2
  replace hbB1 := hbB1.trans (hb2.mono hbB1.size)
  rw [← szs_0 (labs n xss)] at ho
  refine go ?_
  refine w_loop (fun kk fr w' => ∃ (i : Nat), kk = n - i ∧ i ≤ n ∧ fr 7 = rb ∧ fr 18 = lb ∧ fr 19 = .int .i64 n ∧ fr 20 = .int .i64 i ∧ (OI w' w1.heap.size 2 rb (szs (labs n xss) (labc n xss).toNat i)) ∧ Below w1.heap.size w1 w') (n)
    ⟨0, rfl, Nat.zero_le _, rfl, rfl, rfl, rfl, ho, hbB1⟩ ?_
  rintro kk fr w3 ⟨i, rfl, hi, f7, f18, f19, f20, ho, hbB1⟩
  have sw3 := hbB1.size
  have hv := hv_b1.below hbB1
  have hl := hl_b1.below hbB1
  have sho := ho.sv
  refine know (t := 7) f7 ?_; refine know (t := 18) f18 ?_; refine know (t := 19) f19 ?_; refine know (t := 20) f20 ?_
  refine go ?_
  have hzl := szs_len (labs n xss) (labc n xss).toNat i
  refine cond_dec rfl (fun hlt => ?_) (fun hge => ?_)
  · have hd := hL.done i (by omega) (by omega) (by omega)
    have hr := hL.rng i (by omega) (by omega)
    have hbd := szs_bound (L := labs n xss) (c := (labc n xss).toNat) (i := i) _ (gi_mem (j := gi (labs n xss) i) hd (by omega))
    have hnx := szs_succ (L := labs n xss) (c := (labc n xss).toNat) (i := i) (by omega) hd (by omega)
    refine go ?_
    have szq4 := hbB1.size
    refine s_storeI (wn rfl) rfl rfl ho (by omega) (by omega) (fun w4 hoN hgN => ?_)
    replace hbB1 := hbB1.trans (ho.below_of hgN szq4)
    have sw4 := hgN.size
    replace ho := hoN
    clear hoN
    replace hv := hv_b1.below hbB1
    replace hl := hl_b1.below hbB1
    rw [hnx] at ho
    refine go ?_
    refine ⟨n - (i + 1), by omega, i + 1, rfl, by omega, rfl, rfl, rfl, rfl, ho, hbB1⟩
  obtain rfl : i = n := by omega
  refine go ?_
  exact end_one Tryz.results110 rfl ⟨ho.mono (by have := hb.size; omega), (hb.trans (hbB1.mono hb.size))⟩

set_option maxHeartbeats 8000000 in
set_option maxRecDepth 100000 in
theorem typeOf_any (v : Value) (pv : Addr) (ms : List (List Int)) (w : World) (hv : RL w v ms) (hxv : w.cell? pv = some v) (hm : IsMan ms) :
    Ret Tryz.prog 68 #[.pointer (some pv)] w fun r w' => OM w' w.heap.size w'.heap.size 32 2 r (typL ms (ms.length - 1)) ∧ Below w.heap.size w w' := by
  have shv := hv.sv
  have hb := Below.refl w.heap.size w
  refine enter1 45 Tryz.func68 rfl Tryz.ntmps68 rfl (fun fr => ?_)
  have r1 := hm.m0.r1
  have r5 := hm.m0.r5
  have f4 := hm.m0.f400
  have f2 := hm.m0.f2
  have shv' := hv.sv
  refine go ?_
  refine s_call1 (wn rfl) rfl rfl (rank_any _ _ _ _ hxv shv') ?_
  rintro _ _ ⟨rfl, rfl⟩
  refine go ?_
  have sbs1 := hb.size
  have hv_b1 := hv
  have hxv_b1 := hxv
  have hbB1 := Below.refl w.heap.size w
  refine go ?_
  refine w_loop (fun kk fr w' => ∃ (i : Nat) (ob : Value), kk = (ms.length - 1) - i ∧ i ≤ (ms.length - 1) ∧ fr 0 = .pointer (some pv) ∧ fr 3 = ob ∧ fr 9 = .int .i64 ((ms.length : Int) - 1) ∧ fr 10 = .int .i64 i ∧ (OM w' w.heap.size w'.heap.size 32 2 ob (typL ms i)) ∧ (w.heap.size ≤ w'.heap.size) ∧ Below w.heap.size w w') ((ms.length - 1))
    ⟨0, _, rfl, Nat.zero_le _, rfl, rfl, rfl, rfl, OM.nil _ _ _ _ _, Nat.le_refl _, hbB1⟩ ?_
  rintro kk fr w1 ⟨i, ob, rfl, hi, f0, f3, f9, f10, ho, hge, hbB1⟩
  have sw1 := hbB1.size
  have hv := hv_b1.below hbB1
  have hxv := cell_below hxv_b1 hbB1
  have sho := ho.sv
  refine know (t := 0) f0 ?_; refine know (t := 3) f3 ?_; refine know (t := 9) f9 ?_; refine know (t := 10) f10 ?_
  refine go ?_
  refine cond_dec rfl (fun hlt => ?_) (fun hge => ?_)
  · replace ho := ho.top
    have hlen := typL_len ms i
    have hsy := two_sym hm i
    have hL := labs_all hsy (by omega)
    have e2 : ((i : Int) + 2).toNat = i + 2 := by omega
    have e1 : ((i : Int)).toNat = i := by omega
    refine go ?_
    have sbs2 := hbB1.size
    have hv_b2 := hv
    have hxv_b2 := hxv
    have ho_b2 := ho
    have hbB2 := Below.refl w1.heap.size w1
    refine region_h mixed (fun w2 hc2 => ?_)
    have swr2 := hc2.size
    refine h_p 0 hc2 ?_
    refine h_p 2 hc2 ?_
    refine h_p 3 hc2 ?_
    refine h_p 4 hc2 ?_
    refine h_p 5 hc2 ?_
    refine h_p 6 hc2 ?_
    refine h_p 7 hc2 ?_
    refine h_p 8 hc2 ?_
    refine h_p 9 hc2 ?_ (hrun := fun w' hb => y_cutR2 rfl rfl rfl (hv.below hb) (by omega) (by omega) (by omega))
    refine h_one 1 ?_
    refine s_call1 (wn rfl) rfl rfl (flags_any _ _ _ _ (cell_below hxv hc2) (hv.below hc2) r1) ?_
    rintro _ _ ⟨rfl, rfl⟩
    refine w_nil ?_
    refine h_on ⟨hc2, ?_⟩
    have hcut := (hv.below hc2).cut (l := i) (r := i + 2) (by omega) (by omega)
    rw [List.drop_take, show i + 2 - i = 2 by omega] at hcut
    rw [e1, e2]
    have scut := hcut.sv
    have hcl : ((ms.drop i).take 2).length ≤ 1000 := by simp; omega
    refine h_one 10 ?_
    refine s_call2 (wn rfl) rfl rfl rfl (orbitSizes_any _ _ _ _ hcut (nf ms) rfl hsy (by omega) hcl) ?_
    rintro sv w3 ⟨hS, hb3⟩
    have hc3 := hc2.trans (hb3.mono hc2.size)
    refine w_nil ?_
    refine h_on ⟨hc3, ?_⟩
    refine h_p 11 hc3 ?_
    refine h_nil ?_
    have sw3 := hc3.size
    replace hv := hv.below hc3
    replace hxv := cell_below hxv hc3
    replace ho := ho.below hc3
    replace hbB2 := hbB2.trans (hc3.mono hbB2.size)
    replace hS := hS.mono (B' := w1.heap.size) (by omega)
    have hSl := szs_len (labs (nf ms) ((ms.drop i).take 2)) (labc (nf ms) ((ms.drop i).take 2)).toNat (nf ms)
    have hc0 := hL.c0
    have hcp : 1 ≤ labc (nf ms) ((ms.drop i).take 2) := by
      have h1 := hL.done 0 (by omega) (by omega) (by omega)
      have h2 := hL.rng 0 (by omega) (by omega)
      omega
    have hSb := fun x hx => szs_bound (L := labs (nf ms) ((ms.drop i).take 2)) (c := (labc (nf ms) ((ms.drop i).take 2)).toNat) (i := nf ms) x hx
    have hTy : szs (labs (nf ms) ((ms.drop i).take 2)) (labc (nf ms) ((ms.drop i).take 2)).toNat (nf ms) = typS ms i := rfl
    have hll := hL.len
    rw [hTy] at hS hSl hSb
    rw [hll] at hSb
    generalize hSS : typS ms i = S at *
    have hS1 : 1 ≤ S.length := by omega
    have hS4 : S.length ≤ 400 := by omega
    rw [← hlf_0 S] at hS
    have sS := hS.sv
    rw [hlf_len] at sS
    refine go ?_
    refine w_loop (fun kk fr w' => ∃ (k : Nat), kk = S.length - k ∧ k ≤ S.length ∧ fr 0 = .pointer (some pv) ∧ fr 3 = ob ∧ fr 9 = .int .i64 ((ms.length : Int) - 1) ∧ fr 10 = .int .i64 i ∧ fr 5 = sv ∧ fr 24 = sv ∧ fr 25 = .int .i64 S.length ∧ fr 26 = .int .i64 k ∧ (OI w' w1.heap.size 2 sv (hlf S k)) ∧ Below w1.heap.size w1 w') (S.length)
      ⟨0, rfl, Nat.zero_le _, rfl, rfl, rfl, rfl, rfl, rfl, rfl, rfl, hS, hbB2⟩ ?_
    rintro kk fr w4 ⟨k, rfl, hk, f0, f3, f9, f10, f5, f24, f25, f26, hS, hbB2⟩
    have sw4 := hbB2.size
    have hv := hv_b2.below hbB2
    have hxv := cell_below hxv_b2 hbB2
    have ho := ho_b2.below hbB2
    have shS := hS.sv
    refine know (t := 0) f0 ?_; refine know (t := 3) f3 ?_; refine know (t := 9) f9 ?_; refine know (t := 10) f10 ?_; refine know (t := 5) f5 ?_; refine know (t := 24) f24 ?_; refine know (t := 25) f25 ?_; refine know (t := 26) f26 ?_
    refine go ?_
    have hhl := hlf_len S k
    refine cond_dec rfl (fun hltk => ?_) (fun hgek => ?_)
    · have hgk := gi_hlf (S := S) (k := k) (by omega)
      have hnx := hlf_succ (S := S) (k := k) (by omega)
      have hbk := hSb _ (gi_in (xs := S) (j := k) (by omega))
      refine go ?_
      have szq5 := hbB2.size
      refine s_storeI (wn rfl) rfl rfl hS (by omega) (by omega) (fun w5 hoN hgN => ?_)
      replace hbB2 := hbB2.trans (hS.below_of hgN szq5)
      have sw5 := hgN.size
      replace hS := hoN
      clear hoN
      replace hv := hv_b2.below hbB2
      replace hxv := cell_below hxv_b2 hbB2
      replace ho := ho_b2.below hbB2
      rw [hgk, hnx] at hS
      refine go ?_
      refine ⟨S.length - (k + 1), by omega, k + 1, rfl, by omega, rfl, rfl, rfl, rfl, rfl, rfl, rfl, rfl, hS, hbB2⟩
    obtain rfl : k = S.length := by omega
    rw [hlf_all] at hS
    clear shS
    have hml : (S.map fun x => x / 2).length = S.length := List.length_map _
    have hmn : (S.map fun x => x / 2) ≠ [] := fun e => by rw [e] at hml; simp at hml; omega
    have hRow : typR ms i = typRow (S.map fun x => x / 2) := by unfold typR; rw [hSS]
    generalize (S.map fun x => x / 2) = H at *
    refine go ?_
    have szq6 := hbB2.size
    refine s_call1 (wn rfl) rfl rfl (Sort_any _ _ _ _ hS hmn (by omega)) ?_
    rintro _ w6 ⟨hSN, hgN⟩
    replace hbB2 := hbB2.trans (hS.below_of hgN szq6)
    have sw6 := hgN.size
    have hT := hSN
    replace hv := hv_b2.below hbB2
    replace hxv := cell_below hxv_b2 hbB2
    replace ho := ho_b2.below hbB2
    have hpl := (List.mergeSort_perm H (fun x y => decide (x ≤ y))).length_eq
    have hpn : H.mergeSort (fun x y => decide (x ≤ y)) ≠ [] := fun e => by rw [e] at hpl; simp at hpl; omega
    have sT := hT.sv
    have hS := hT
    clear hT
    refine go ?_
    have szq7 := hbB2.size
    refine s_call1 (wn rfl) rfl rfl (Compact_any _ _ _ _ hS hpn (by omega)) ?_
    rintro rv w7 ⟨hSN, hgN⟩
    replace hbB2 := hbB2.trans (hS.below_of hgN szq7)
    have sw7 := hgN.size
    have hR := hSN
    replace hv := hv_b2.below hbB2
    replace hxv := cell_below hxv_b2 hbB2
    replace ho := ho_b2.below hbB2
    rw [hpl, show Lib.compactUpTo (H.mergeSort fun x y => decide (x ≤ y)).toArray H.length = typRow H from rfl, ← hRow] at hR
    have sR := hR.sv
    replace hbB1 := hbB1.trans (hbB2.mono hbB1.size)
    refine go ?_
    have szq8 := hbB1.size
    refine s_build1V (B := w.heap.size) (wn rfl) rfl rfl hR.sv.one szq8 (fun tb w8 ht st hg8 _ => ?_)
    have hb8 := below_of_grownBy hg8
    have sw8 := hb8.size
    replace hv := hv.below hb8
    replace hxv := cell_below hxv hb8
    replace ho := ho.below hb8
    replace hR := hR.below hb8
    replace hbB1 := hbB1.trans (hb8.mono hbB1.size)
    have szq9 := hbB1.size
    refine s_appendM (wn rfl) rfl rfl rfl ho ht.rd hR (by omega) (by decide) (by omega) szq9 (fun ob' w9 hoN so hgN => ?_)
    replace hbB1 := hbB1.trans (ho.below_of hgN szq9)
    have sw9 := hgN.size
    replace ho := hoN
    clear hoN
    replace hv := hv_b1.below hbB1
    replace hxv := cell_below hxv_b1 hbB1
    refine go ?_
    refine ⟨(ms.length - 1) - (i + 1), by omega, i + 1, ob', rfl, by omega, rfl, rfl, rfl, rfl, by rw [typL_succ]; exact ho, by omega, hbB1⟩
  obtain rfl : i = (ms.length - 1) := by omega
  refine go ?_
  exact end_one Tryz.results68 rfl ⟨ho.mono (by have := hb.size; omega), (hb.trans (hbB1.mono hb.size))⟩

set_option maxHeartbeats 8000000 in
set_option maxRecDepth 100000 in
theorem TypeOf_good (v : Value) (ms : List (List Int)) (w : World) (hv : RL w v ms) (hm : IsMan ms) :
    Ret Tryz.prog 24 #[.agg #[v]] w fun r w' => ∃ x, r = .tuple #[x, .int .i64 0] ∧ OM w' w.heap.size w'.heap.size 32 2 x (typL ms (ms.length - 1)) ∧ Below w.heap.size w w' := by
  have shv := hv.sv
  have hb := Below.refl w.heap.size w
  refine enter1 8 Tryz.func24 rfl Tryz.ntmps24 rfl (fun fr => ?_)
  have d1 := decide_eq_true hm
  refine go ?_
  refine s_box (wn rfl) rfl rfl (agg_cells shv) (fun w1 hbx _ hp hg => ?_)
  have hb1 := below_of_grownBy hg
  have sw1 := hb1.size
  replace hv := hv.below hb1
  replace hb := hb.trans (hb1.mono hb.size)
  clear hg hp hb1
  generalize (⟨w.heap.size, 0, none⟩ : Addr) = p at *
  refine go ?_
  refine s_call1 (wn rfl) rfl rfl (isManiplex_any _ _ _ hv) ?_
  rintro _ w2 ⟨rfl, hb2⟩
  have sw2 := hb2.size
  replace hv := hv.below hb2
  replace hbx := cell_below hbx hb2
  replace hb := hb.trans (hb2.mono hb.size)
  rw [d1]
  have sz2 := hb.size
  refine go ?_
  refine s_call1 (wn rfl) rfl rfl (typeOf_any _ _ _ _ hv hbx hm) ?_
  rintro lx w3 ⟨hl, hb3⟩
  have sw3 := hb3.size
  replace hv := hv.below hb3
  replace hbx := cell_below hbx hb3
  replace hb := hb.trans (hb3.mono hb.size)
  refine go ?_
  exact end_two Tryz.results24 rfl rfl ⟨lx, rfl, hl.mono (by omega), hb⟩

end Go.Proofs.YtablpijnjkncfaaGreat

/- Plain words on lists: the Euler characteristic, and maniplexes that are locally spherical. No program in sight. -/
namespace Go.Mem
open Go.RowKit
set_option linter.unusedVariables false
/-- the alternating sum of the first k numbers -/
def eul (xs : List Int) : Nat → Int
  | 0 => 0
  | k + 1 => if k % 2 = 0 then eul xs k + gi xs k else eul xs k - gi xs k
theorem eul_bound {xs : List Int} (h : ∀ x ∈ xs, 0 ≤ x ∧ x ≤ 1000) : ∀ k : Nat, k ≤ xs.length → -(1000 * (k : Int)) ≤ eul xs k ∧ eul xs k ≤ 1000 * (k : Int)
  | 0, _ => by simp [eul]
  | k + 1, hk => by
    have h1 := eul_bound h k (by omega)
    have h2 := h (gi xs k) (gi_mem (by omega) (by omega))
    unfold eul
    split <;> constructor <;> push_cast <;> omega
theorem eul_same {xs ys : List Int} : ∀ k : Nat, (∀ j : Nat, j < k → gi xs j = gi ys j) → eul xs k = eul ys k
  | 0, _ => rfl
  | k + 1, h => by
    unfold eul
    rw [eul_same k fun j hj => h j (by omega), h k (by omega)]
/-- the Euler characteristic -/
def chi (ms : List (List Int)) : Int := eul (facN ms) ms.length
section
variable {M A ms : List (List Int)} {n : Nat} {p f : Int}
theorem facN_rng (hm : IsMan M) : ∀ x ∈ facN M, 0 ≤ x ∧ x ≤ 1000 := fun x hx => by
  obtain ⟨i, _, rfl⟩ := List.mem_map.1 hx
  have := facC_pos hm (i : Int)
  omega
theorem chi_form (hm : IsMan M) (hp : 0 ≤ p ∧ p < nf M) : chi (frm (nf M) M p) = chi M := by
  have f2 := hm.m0.f2
  have f4 := hm.m0.f400
  have r1 := hm.m0.r1
  have hol := man_orbit_len hm hp
  have hk := form_man hm hp
  have hnf := nf_frm (n := nf M) (rs := M) (p := p) r1
  have hlen := frm_len (nf M) M p
  obtain ⟨hS, _, _, _⟩ := homS_form hm.syst (by omega) hp
  rw [hol] at hnf hS
  unfold chi
  rw [hlen]
  refine eul_same _ fun j hj => ?_
  rw [gi_facN (by omega) (by omega), gi_facN (by omega) (by omega)]
  unfold facC
  have hs := oth_sym hk (j : Int)
  rw [hnf] at hs ⊢
  exact (hS.oth (by omega)).labc hs (oth_sym hm _) (by omega)
theorem chi_lst (hm : IsMan M) : chi (lst M) = chi M := by
  obtain ⟨f, hf, e⟩ := lst_frm (ms := M) (by have := hm.m0.f2; omega)
  rw [e]; exact chi_form hm hf
theorem secF_mem (hk : Like n A) (h1 : 1 ≤ n) (K : List (List Int)) : K ∈ secF n A ↔ ∃ f : Int, (0 ≤ f ∧ f < n) ∧ K = lst (frm n A f) := by
  have h4 := hk.n400
  have hL := labs_all (hk.sym fun m h => h) (by omega)
  constructor
  · intro h
    obtain ⟨o, ho, rfl⟩ := List.mem_map.1 (((fmsM_ok _).2 _).1 h)
    exact ⟨_, idx_rng hL (List.mem_range.1 ho), rfl⟩
  · rintro ⟨f, hf, rfl⟩
    obtain ⟨g1, g2, g3⟩ := secK_at hk h1 hf
    rw [← g3]
    rw [List.getD, List.getElem?_eq_getElem (by omega), Option.getD_some]
    exact List.getElem_mem _
theorem chi_sec (hk : Like n A) (h1 : 1 ≤ n) : (∀ K ∈ secF n A, chi K = 2) ↔ ∀ f : Int, 0 ≤ f → f < n → chi (frm n A f) = 2 := by
  constructor
  · intro h f h0 hf
    rw [← chi_lst (frm_man hk ⟨h0, hf⟩)]
    exact h _ ((secF_mem hk h1 _).2 ⟨f, ⟨h0, hf⟩, rfl⟩)
  · intro h K hK
    obtain ⟨f, hf, rfl⟩ := (secF_mem hk h1 K).1 hK
    rw [chi_lst (frm_man hk hf)]
    exact h f hf.1 hf.2
/-- the sections of three moves from i on have the Euler characteristic 2 -/
def SphAt (ms : List (List Int)) (i : Int) : Prop := ∀ K ∈ secF (nf ms) (secA ms i (i + 2)), chi K = 2
noncomputable instance (ms : List (List Int)) (i : Int) : Decidable (SphAt ms i) := Classical.propDecidable _
def Sph (ms : List (List Int)) : Prop := 3 < ms.length → ∀ i : Nat, i + 2 < ms.length → SphAt ms i
noncomputable def isSph (ms : List (List Int)) : Bool := @decide (IsMan ms ∧ 3 ≤ ms.length ∧ Sph ms) (Classical.propDecidable _)
noncomputable def sphC (ms : List (List Int)) : Int := if IsMan ms then (if ms.length < 3 then 5 else 0) else 1
theorem sph_1 (h : ¬ IsMan ms) : isSph ms = false ∧ sphC ms = 1 := ⟨@decide_eq_false _ (Classical.propDecidable _) fun e => h e.1, if_neg h⟩
theorem sph_2 (hm : IsMan ms) (h : ms.length < 3) : isSph ms = false ∧ sphC ms = 5 := ⟨@decide_eq_false _ (Classical.propDecidable _) fun e => by have := e.2.1; omega, by unfold sphC; rw [if_pos hm, if_pos h]⟩
theorem sph_c (hm : IsMan ms) (h : ¬ ms.length < 3) : sphC ms = 0 := by unfold sphC; rw [if_pos hm, if_neg h]
theorem sph_yes (hm : IsMan ms) (h : ¬ ms.length < 3) (hs : Sph ms) : isSph ms = true := @decide_eq_true _ (Classical.propDecidable _) ⟨hm, by omega, hs⟩
theorem sph_no (hs : ¬ Sph ms) : isSph ms = false := @decide_eq_false _ (Classical.propDecidable _) fun e => hs e.2.2
theorem sec_ok (hm : IsMan ms) {i : Nat} (hi : i + 2 < ms.length) : SecOk ms i (i + 2) := ⟨by omega, by omega, by omega⟩
theorem sphAt_iff (hm : IsMan ms) {i : Nat} (hi : i + 2 < ms.length) : SphAt ms i ↔ ∀ f : Int, 0 ≤ f → f < nf ms → chi (frm (nf ms) (secA ms i (i + 2)) f) = 2 :=
  chi_sec (secA_like hm (sec_ok hm hi)) (by have := hm.m0.f2; omega)
theorem sph_spoil {i : Nat} (hi : i + 2 < ms.length) (h3 : 3 < ms.length) (h : ¬ SphAt ms i) : ¬ Sph ms := fun e => h (e h3 i hi)
/-- the first numbers of the rows of the type -/
def smL (ms : List (List Int)) (k : Nat) : List Int := (List.range k).map fun i : Nat => gi (typR ms i) 0
theorem smL_len (ms : List (List Int)) (k : Nat) : (smL ms k).length = k := by simp [smL]
theorem smL_succ (ms : List (List Int)) (k : Nat) : smL ms (k + 1) = smL ms k ++ [gi (typR ms k) 0] := by simp [smL, List.range_succ]
theorem gi_smL {k : Nat} {i : Nat} (hi : i < k) : gi (smL ms k) i = gi (typR ms i) 0 := by
  unfold smL
  rw [gi_range_map (by omega) (by omega)]
  simp
theorem gr_typL {k : Nat} {i : Nat} (hi : i < k) : gr (typL ms k) i = typR ms i := by
  simp [typL, gr, List.getD, hi]
theorem typR_pos (hm : IsMan ms) {i : Nat} (hi : i + 1 < ms.length) : 1 ≤ (typR ms i).length := by
  have h2 := ((typ_poly hm (i := i)).2 _).2 ⟨0, by have := hm.m0.f2; omega, rfl⟩
  exact List.length_pos_of_mem h2
end
end Go.Mem

/- Contracts: Euler characteristics; IsLocallySpherical, on both sides; SmallestPolygons; the draw of them. -/
namespace Go.Proofs.YtablpijnjkncfaaGreat
open Go.Mem Go.RowKit
set_option linter.unusedVariables false
set_option linter.unusedSimpArgs false


set_option maxHeartbeats 4000000 in
set_option maxRecDepth 100000 in
theorem eulerOf_any (v : Value) (xs : List Int) (w : World) (hv : IL w v xs) (hx : ∀ x ∈ xs, 0 ≤ x ∧ x ≤ 1000) (hl : xs.length ≤ 1000) :
    Ret Tryz.prog 63 #[v] w fun r w' => r = .int .i64 (eul xs xs.length) ∧ w = w' := by
  have sv := hv.sv
  have hcap := sv.le
  refine enter1 24 Tryz.func63 rfl Tryz.ntmps63 rfl (fun fr => ?_)
  refine go ?_
  refine w_loop (fun k fr w' => ∃ (i : Nat), k = xs.length - i ∧ i ≤ xs.length ∧ fr 3 = .int .i64 (eul xs i) ∧ fr 6 = v ∧ fr 7 = .int .i64 xs.length ∧ fr 8 = .int .i64 i ∧ w = w') xs.length
    ⟨0, rfl, Nat.zero_le _, rfl, rfl, rfl, rfl, rfl⟩ ?_
  rintro k fr _ ⟨i, rfl, hi, f3, f6, f7, f8, rfl⟩
  refine know (t := 3) f3 ?_; refine know (t := 6) f6 ?_; refine know (t := 7) f7 ?_; refine know (t := 8) f8 ?_
  refine go ?_
  refine cond_dec rfl (fun hlt => ?_) (fun hge => ?_)
  · have hy := hx _ (gi_mem (xs := xs) (j := (i : Int)) (by omega) (by omega))
    have hb := eul_bound hx i hi
    have he : eul xs (i + 1) = if i % 2 = 0 then eul xs i + gi xs i else eul xs i - gi xs i := rfl
    refine go ?_
    refine cond_dec rfl (fun h => ?_) (fun h => ?_)
    · rw [if_pos (by omega)] at he
      refine go ?_
      exact ⟨xs.length - (i + 1), by omega, i + 1, rfl, by omega, by rw [he]; rfl, rfl, rfl, rfl, rfl⟩
    · rw [if_neg (by omega)] at he
      refine go ?_
      exact ⟨xs.length - (i + 1), by omega, i + 1, rfl, by omega, by rw [he]; rfl, rfl, rfl, rfl, rfl⟩
  · obtain rfl : i = xs.length := by omega
    refine go ?_
    exact end_one Tryz.results63 rfl ⟨rfl, rfl⟩


set_option maxHeartbeats 4000000 in
set_option maxRecDepth 100000 in
theorem l02Euler_any (v : Value) (xs : List Int) (w : World) (hv : IL w v xs) (hx : ∀ x ∈ xs, 0 ≤ x ∧ x ≤ 1000) (hl : xs.length ≤ 1000) :
    Ret Tryz.prog 65 #[v] w fun r w' => r = .int .i64 (eul xs xs.length) ∧ w = w' := by
  have sv := hv.sv
  have hcap := sv.le
  refine enter1 27 Tryz.func65 rfl Tryz.ntmps65 rfl (fun fr => ?_)
  refine go ?_
  refine w_loop (fun k fr w' => ∃ (i : Nat), k = xs.length - i ∧ i ≤ xs.length ∧ fr 0 = v ∧ fr 3 = .int .i64 (eul xs i) ∧ fr 4 = .int .i64 i ∧ w = w') xs.length
    ⟨0, rfl, Nat.zero_le _, rfl, rfl, rfl, rfl⟩ ?_
  rintro k fr _ ⟨i, rfl, hi, f0, f3, f4, rfl⟩
  refine know (t := 0) f0 ?_; refine know (t := 3) f3 ?_; refine know (t := 4) f4 ?_
  refine go ?_
  refine cond_dec rfl (fun hlt => ?_) (fun hge => ?_)
  · have hy := hx _ (gi_mem (xs := xs) (j := (i : Int)) (by omega) (by omega))
    have hb := eul_bound hx i hi
    have he : eul xs (i + 1) = if i % 2 = 0 then eul xs i + gi xs i else eul xs i - gi xs i := rfl
    refine go ?_
    refine cond_dec rfl (fun h => ?_) (fun h => ?_)
    · rw [if_pos (by omega)] at he
      refine go ?_
      exact ⟨xs.length - (i + 1), by omega, i + 1, rfl, by omega, rfl, by rw [he]; rfl, rfl, rfl⟩
    · rw [if_neg (by omega)] at he
      refine go ?_
      exact ⟨xs.length - (i + 1), by omega, i + 1, rfl, by omega, rfl, by rw [he]; rfl, rfl, rfl⟩
  · obtain rfl : i = xs.length := by omega
    refine go ?_
    exact end_one Tryz.results65 rfl ⟨rfl, rfl⟩

set_option maxHeartbeats 8000000 in
set_option maxRecDepth 100000 in
theorem EulerCharacteristic_good (v : Value) (ms : List (List Int)) (w : World) (hv : RL w v ms) (hm : IsMan ms) :
    Ret Tryz.prog 26 #[.agg #[v]] w fun r w' => r = .tuple #[.int .i64 (chi ms), .int .i64 0] ∧ Below w.heap.size w w' := by
  have shv := hv.sv
  have hb := Below.refl w.heap.size w
  refine enter1 9 Tryz.func26 rfl Tryz.ntmps26 rfl (fun fr => ?_)
  have d1 := decide_eq_true hm
  have r5 := hm.m0.r5
  have hfl := facN_len ms
  have hch : chi ms = eul (facN ms) (facN ms).length := by rw [hfl]; rfl
  refine go ?_
  refine s_box (wn rfl) rfl rfl (agg_cells shv) (fun w1 hbx _ hp hg => ?_)
  have hb1 := below_of_grownBy hg
  have sw1 := hb1.size
  replace hv := hv.below hb1
  replace hb := hb.trans (hb1.mono hb.size)
  clear hg hp hb1
  generalize (⟨w.heap.size, 0, none⟩ : Addr) = p at *
  refine go ?_
  refine s_call1 (wn rfl) rfl rfl (isManiplex_any _ _ _ hv) ?_
  rintro _ w2 ⟨rfl, hb2⟩
  have sw2 := hb2.size
  replace hv := hv.below hb2
  replace hbx := cell_below hbx hb2
  replace hb := hb.trans (hb2.mono hb.size)
  rw [d1]
  refine go ?_
  refine s_call1 (wn rfl) rfl rfl (faceCounts_any _ _ _ _ hv hbx hm) ?_
  rintro y w3 ⟨hy, hb3⟩
  have sw3 := hb3.size
  replace hv := hv.below hb3
  replace hbx := cell_below hbx hb3
  replace hb := hb.trans (hb3.mono hb.size)
  refine go ?_
  refine s_call1 (wn rfl) rfl rfl (eulerOf_any _ _ _ hy.il (facN_rng hm) (by omega)) ?_
  rintro _ _ ⟨rfl, rfl⟩
  refine go ?_
  exact end_two Tryz.results26 rfl rfl ⟨by rw [hch], hb⟩

set_option maxHeartbeats 8000000 in
set_option maxRecDepth 100000 in
theorem l02Counts_any (v : Value) (ms : List (List Int)) (w : World) (hv : RL w v ms) (hm : IsMan ms) :
    Ret Tryz.prog 66 #[.agg #[v]] w fun r w' => OI w' w.heap.size 2 r (facN ms) ∧ Below w.heap.size w w' := by
  have shv := hv.sv
  have hb := Below.refl w.heap.size w
  refine enter1 21 Tryz.func66 rfl Tryz.ntmps66 rfl (fun fr => ?_)
  have r5 := hm.m0.r5
  have f4 := hm.m0.f400
  refine go ?_
  refine s_box (wn rfl) rfl rfl (agg_cells shv) (fun w1 hbx _ hp hg => ?_)
  have hb1 := below_of_grownBy hg
  have sw1 := hb1.size
  replace hv := hv.below hb1
  replace hb := hb.trans (hb1.mono hb.size)
  clear hg hp hb1
  generalize (⟨w.heap.size, 0, none⟩ : Addr) = p at *
  have sz0 := hb.size
  have sbs1 := hb.size
  have hv_b1 := hv
  have hbx_b1 := hbx
  have hbB1 := Below.refl w1.heap.size w1
  refine go ?_
  have szq2 := hbB1.size
  refine s_build0 (B := w1.heap.size) (wn rfl) rfl szq2 (fun ob w2 ho so hg2 _ => ?_)
  have hb2 := below_of_grownBy hg2
  have sw2 := hb2.size
  replace hv := hv.below hb2
  replace hbx := cell_below hbx hb2
  replace hbB1 := hbB1.trans (hb2.mono hbB1.size)
  refine go ?_
  refine w_loop (fun kk fr w' => ∃ (i : Nat) (ob : Value), kk = ms.length - i ∧ i ≤ ms.length ∧ fr 1 = .pointer (some p) ∧ fr 3 = ob ∧ fr 4 = .int .i64 i ∧ (OI w' w1.heap.size 2 ob ((List.range i).map fun i : Nat => facC ms i)) ∧ Below w1.heap.size w1 w') (ms.length)
    ⟨0, ob, rfl, Nat.zero_le _, rfl, rfl, rfl, ho, hbB1⟩ ?_
  rintro kk fr w3 ⟨i, ob, rfl, hi, f1, f3, f4, ho, hbB1⟩
  have sw3 := hbB1.size
  have hv := hv_b1.below hbB1
  have hbx := cell_below hbx_b1 hbB1
  have sho := ho.sv
  refine know (t := 1) f1 ?_; refine know (t := 3) f3 ?_; refine know (t := 4) f4 ?_
  refine go ?_
  refine cond_dec rfl (fun hlt => ?_) (fun hge => ?_)
  · have hsy := oth_sym hm (i : Int)
    have hgre : gre (facL ms i) = facC ms i := gre_labs hsy (by omega)
    have hmem : ∀ x ∈ facL ms i, x < 1000000000000 := fun x h => by have := (labs_all hsy (by omega)).mem x h; have := facC_pos hm (i : Int); have h9 : labc (nf ms) (oth ms i) = facC ms i := rfl; omega
    refine go ?_
    refine s_call2 (wn rfl) rfl rfl rfl (l02Faces_any _ _ (i : Int) _ hv hm (by omega)) ?_
    rintro lb w4 ⟨hlb, hb4⟩
    have sw4 := hb4.size
    replace hv := hv.below hb4
    replace hbx := cell_below hbx hb4
    replace ho := ho.below hb4
    replace hbB1 := hbB1.trans (hb4.mono hbB1.size)
    refine go ?_
    refine s_call1 (wn rfl) rfl rfl (l02Greatest_any _ _ _ hlb.il hmem) ?_
    rintro _ _ ⟨rfl, rfl⟩
    rw [hgre]
    refine go ?_
    have szq5 := hbB1.size
    refine s_build1 (B := w1.heap.size) (wn rfl) rfl rfl szq5 (fun tb w5 ht st hg5 _ => ?_)
    have hb5 := below_of_grownBy hg5
    have sw5 := hb5.size
    replace hv := hv.below hb5
    replace hbx := cell_below hbx hb5
    replace ho := ho.below hb5
    replace hlb := hlb.below hb5
    replace hbB1 := hbB1.trans (hb5.mono hbB1.size)
    have szq6 := hbB1.size
    refine s_appendI (wn rfl) rfl rfl rfl ho ht.il (by simp; omega) szq6 (fun ob' w6 hoN so hgN _ => ?_)
    replace hbB1 := hbB1.trans (ho.below_of hgN szq6)
    have sw6 := hgN.size
    replace ho := hoN
    clear hoN
    replace hv := hv_b1.below hbB1
    replace hbx := cell_below hbx_b1 hbB1
    refine go ?_
    refine ⟨ms.length - (i + 1), by omega, i + 1, ob', rfl, by omega, rfl, rfl, rfl, by rw [facN_succ]; exact ho, hbB1⟩
  obtain rfl : i = ms.length := by omega
  refine go ?_
  exact end_one Tryz.results66 rfl ⟨ho.mono (by omega), (hb.trans (hbB1.mono hb.size))⟩

set_option maxHeartbeats 16000000 in
set_option maxRecDepth 100000 in
theorem implIsLocallySpherical_any (v : Value) (ms : List (List Int)) (w : World) (hv : RL w v ms) :
    Ret Tryz.prog 21 #[.agg #[v]] w fun r w' => r = .tuple #[.bool (isSph ms), .int .i64 (sphC ms)] ∧ Below w.heap.size w w' := by
  have shv := hv.sv
  have hb := Below.refl w.heap.size w
  refine enter1 43 Tryz.func21 rfl Tryz.ntmps21 rfl (fun fr => ?_)
  refine go ?_
  refine s_box (wn rfl) rfl rfl (agg_cells shv) (fun w1 hbx _ hp hg => ?_)
  have hb1 := below_of_grownBy hg
  have sw1 := hb1.size
  replace hv := hv.below hb1
  replace hb := hb.trans (hb1.mono hb.size)
  clear hg hp hb1
  generalize (⟨w.heap.size, 0, none⟩ : Addr) = p at *
  refine go ?_
  refine s_call1 (wn rfl) rfl rfl (isManiplex_any _ _ _ hv) ?_
  rintro _ w2 ⟨rfl, hb2⟩
  have sw2 := hb2.size
  replace hv := hv.below hb2
  replace hbx := cell_below hbx hb2
  replace hb := hb.trans (hb2.mono hb.size)
  refine splitb (decide (IsMan ms)) (fun hm => ?_) (fun hm => ?_)
  rotate_left
  · have hm := of_decide_eq_false hm
    have e := sph_1 hm
    refine go ?_
    exact end_two Tryz.results21 rfl rfl ⟨by rw [e.1, e.2], hb⟩
  have hm' := of_decide_eq_true hm
  have r1 := hm'.m0.r1
  have r5 := hm'.m0.r5
  have shp := hv.sv
  refine go ?_
  refine s_call1 (wn rfl) rfl rfl (rank_any _ _ _ _ hbx shv) ?_
  rintro _ _ ⟨rfl, rfl⟩
  refine go ?_
  by_cases h3 : ms.length < 3
  · have e := sph_2 hm' h3
    have hd : (ms.length : Int) < 3 := by omega
    refine go ?_
    exact end_two Tryz.results21 rfl rfl ⟨by rw [e.1, e.2], hb⟩
  have ec := sph_c hm' h3
  have hd : ¬ ((ms.length : Int) < 3) := by omega
  refine go ?_
  by_cases h4 : 3 < ms.length
  rotate_left
  · have hS : Sph ms := fun h => absurd h h4
    have hg4 : ¬ ((ms.length : Int) > 3) := by omega
    have hg4' : ¬ ((3 : Int) < ms.length) := by omega
    refine go ?_
    have sbs1 := hb.size
    have hv_b1 := hv
    have hbx_b1 := hbx
    have hbB1 := Below.refl w2.heap.size w2
    refine w_loop (fun kk fr w' => ∃ (i : Nat), kk = 0 - i ∧ i ≤ 0 ∧ fr 1 = .pointer (some p) ∧ fr 4 = .int .i64 i ∧ Below w2.heap.size w2 w') (0)
      ⟨0, rfl, Nat.zero_le _, rfl, rfl, hbB1⟩ ?_
    rintro kk fr w3 ⟨i, rfl, hi, f1, f4, hbB1⟩
    have sw3 := hbB1.size
    have hv := hv_b1.below hbB1
    have hbx := cell_below hbx_b1 hbB1
    refine know (t := 1) f1 ?_; refine know (t := 4) f4 ?_
    refine go ?_
    refine go ?_
    refine s_call1 (wn rfl) rfl rfl (rank_any _ _ _ _ hbx shp) ?_
    rintro _ _ ⟨rfl, rfl⟩
    refine go ?_
    have eS := sph_yes hm' h3 hS
    refine go ?_
    exact end_two Tryz.results21 rfl rfl ⟨by rw [eS, ec], (hb.trans (hbB1.mono hb.size))⟩
  have hg4 :  ((ms.length : Int) > 3) := by omega
  have hg4' :  ((3 : Int) < ms.length) := by omega
  refine go ?_
  have sbs1 := hb.size
  have hv_b1 := hv
  have hbx_b1 := hbx
  have hbB1 := Below.refl w2.heap.size w2
  refine w_loop (fun kk fr w' => ∃ (i : Nat), kk = ms.length - i ∧ i ≤ ms.length ∧ fr 1 = .pointer (some p) ∧ fr 4 = .int .i64 i ∧ (∀ j : Nat, j < i → SphAt ms j) ∧ Below w2.heap.size w2 w') (ms.length)
    ⟨0, rfl, Nat.zero_le _, rfl, rfl, fun j h => absurd h (by omega), hbB1⟩ ?_
  rintro kk fr w4 ⟨i, rfl, hi, f1, f4, hS, hbB1⟩
  have sw4 := hbB1.size
  have hv := hv_b1.below hbB1
  have hbx := cell_below hbx_b1 hbB1
  refine know (t := 1) f1 ?_; refine know (t := 4) f4 ?_
  refine go ?_
  refine go ?_
  refine s_call1 (wn rfl) rfl rfl (rank_any _ _ _ _ hbx shp) ?_
  rintro _ _ ⟨rfl, rfl⟩
  refine go ?_
  refine go ?_
  refine s_call1 (wy rfl rfl rfl rfl rfl known) rfl rfl (rank_any _ _ _ _ hbx shp) ?_
  rintro _ _ ⟨rfl, rfl⟩
  refine go ?_
  refine cond_dec rfl (fun hlt => ?_) (fun hge => ?_)
  · have hok := sec_ok hm' (i := i) (by omega)
    refine go ?_
    refine s_call3 (wn rfl) rfl rfl rfl rfl (sectionFormsS_any _ _ _ (i : Int) ((i : Int) + 2) _ hv hbx hm' ⟨by omega, by omega, by omega⟩) ?_
    rintro _ w5 ⟨fx, fy, rfl, hF0, hK, hb5⟩
    have sw5 := hb5.size
    replace hv := hv.below hb5
    replace hbx := cell_below hbx hb5
    replace hbB1 := hbB1.trans (hb5.mono hbB1.size)
    have hF : RS _ fx (secF (nf ms) (secA ms i ((i : Int) + 2))) := hF0.rs
    clear hF0 hK
    have hsecs := secF_ok hm' hok
    have sF := hF.sv
    have hFe : ∀ K ∈ secF (nf ms) (secA ms i ((i : Int) + 2)), K ∈ secF (nf ms) (secA ms i ((i : Int) + 2)) := fun K h => h
    generalize hFg : secF (nf ms) (secA ms i ((i : Int) + 2)) = F at *
    refine go ?_
    have sbs2 := hbB1.size
    have hv_b2 := hv
    have hbx_b2 := hbx
    have hF_b2 := hF
    have hbB2 := Below.refl w5.heap.size w5
    refine go ?_
    refine w_loop (fun kk fr w' => ∃ (t : Nat), kk = F.length - t ∧ t ≤ F.length ∧ fr 1 = .pointer (some p) ∧ fr 4 = .int .i64 i ∧ fr 33 = fx ∧ fr 34 = .int .i64 F.length ∧ fr 35 = .int .i64 t ∧ (∀ j : Nat, j < t → chi (F.getD j []) = 2) ∧ Below w5.heap.size w5 w') (F.length)
      ⟨0, rfl, Nat.zero_le _, rfl, rfl, rfl, rfl, rfl, fun j h => absurd h (by omega), hbB2⟩ ?_
    rintro kk fr w6 ⟨t, rfl, ht, f1, f4, f33, f34, f35, hT, hbB2⟩
    have sw6 := hbB2.size
    have hv := hv_b2.below hbB2
    have hbx := cell_below hbx_b2 hbB2
    have hF := hF_b2.below hbB2
    refine know (t := 1) f1 ?_; refine know (t := 4) f4 ?_; refine know (t := 33) f33 ?_; refine know (t := 34) f34 ?_; refine know (t := 35) f35 ?_
    refine go ?_
    refine cond_dec rfl (fun hlt2 => ?_) (fun hge2 => ?_)
    · obtain ⟨u, hu, hcu⟩ := hF.el (j := t) (by omega)
      have hnn : ((t : Int)).toNat = t := by omega
      rw [← hnn] at hcu
      have hin : F.getD t [] ∈ F := by rw [List.getD, List.getElem?_eq_getElem (by omega), Option.getD_some]; exact List.getElem_mem _
      have hmK := hsecs.2 _ hin
      have hsT : ∀ d : Nat, d = t → chi (F.getD d []) = chi (F.getD t []) := fun d h => by rw [h]
      generalize F.getD t [] = K at *
      have suK := hu.sv
      refine go ?_
      refine s_p (wn rfl) rfl (y_idxSE rfl rfl sF (by omega) (by omega)) ?_
      refine go ?_
      refine s_alloc (B := w6.heap.size) (wn rfl) rfl (Nat.le_refl _) (fun w7 p8 hx8 hg7 hpp8 => ?_)
      have hb7 := below_of_grownBy hg7
      refine go ?_
      refine s_storeBox (wn rfl) rfl rfl suK.one hx8 (fun w8 hx8b hg8 => ?_)
      have hbq8 := hb7.trans (hx8.below_of hg8 hb7.size)
      have sw8 := hbq8.size
      replace hv := hv.below hbq8
      replace hbx := cell_below hbx hbq8
      replace hF := hF.below hbq8
      replace hu := hu.below hbq8
      replace hcu := cell_below hcu hbq8
      replace hbB2 := hbB2.trans (hbq8.mono hbB2.size)
      have hc8 := hx8b.cell
      have hfl := facN_len K
      have k5 := hmK.m0.r5
      have hch : chi K = eul (facN K) (facN K).length := by rw [hfl]; rfl
      refine go ?_
      refine s_call1 (wn rfl) rfl rfl (faceCounts_any _ _ _ _ hu hc8 hmK) ?_
      rintro y w9 ⟨hy, hb9⟩
      have sw9 := hb9.size
      replace hv := hv.below hb9
      replace hbx := cell_below hbx hb9
      replace hF := hF.below hb9
      replace hu := hu.below hb9
      replace hcu := cell_below hcu hb9
      replace hc8 := cell_below hc8 hb9
      replace hbB2 := hbB2.trans (hb9.mono hbB2.size)
      refine go ?_
      refine s_call1 (wn rfl) rfl rfl (eulerOf_any _ _ _ hy.il (facN_rng hmK) (by omega)) ?_
      rintro _ _ ⟨rfl, rfl⟩
      rw [← hch]
      refine go ?_
      refine cond_dec rfl (fun hne => ?_) (fun hne => ?_)
      · have eS := sph_no (sph_spoil (ms := ms) (i := i) (by omega) h4 fun hA => hne (hA K (by rw [hFg]; exact hin)))
        refine go ?_
        exact end_two Tryz.results21 rfl rfl ⟨by rw [eS, ec], ((hb.trans (hbB1.mono hb.size)).trans (hbB2.mono (hb.trans (hbB1.mono hb.size)).size))⟩
      refine go ?_
      refine ⟨F.length - (t + 1), by omega, t + 1, rfl, by omega, rfl, rfl, rfl, rfl, rfl, fun j h => by
                      by_cases hj : j = t
                      · rw [hsT j hj]; exact Classical.not_not.1 hne
                      · exact hT j (by omega), hbB2⟩
    obtain rfl : t = F.length := by omega
    replace hbB1 := hbB1.trans (hbB2.mono hbB1.size)
    have hAt : SphAt ms i := fun K hK => by
      rw [hFg] at hK
      obtain ⟨j, hj, rfl⟩ := List.mem_iff_getElem.1 hK
      have := hT j hj
      rwa [List.getD, List.getElem?_eq_getElem hj, Option.getD_some] at this
    refine go ?_
    refine ⟨ms.length - (i + 1), by omega, i + 1, rfl, by omega, rfl, rfl, fun j h => by
                by_cases hj : j = i
                · rw [hj]; exact hAt
                · exact hS j (by omega), hbB1⟩
  have eS := sph_yes hm' h3 fun _ j hj => hS j (by omega)
  refine go ?_
  exact end_two Tryz.results21 rfl rfl ⟨by rw [eS, ec], (hb.trans (hbB1.mono hb.size))⟩

set_option maxHeartbeats 16000000 in
set_option maxRecDepth 100000 in
theorem specIsLocallySpherical_any (v : Value) (ms : List (List Int)) (w : World) (hv : RL w v ms) :
    Ret Tryz.prog 22 #[.agg #[v]] w fun r w' => r = .tuple #[.bool (isSph ms), .int .i64 (sphC ms)] ∧ Below w.heap.size w w' := by
  have shv := hv.sv
  have hb := Below.refl w.heap.size w
  refine enter1 40 Tryz.func22 rfl Tryz.ntmps22 rfl (fun fr => ?_)
  refine go ?_
  refine s_box (wn rfl) rfl rfl (agg_cells shv) (fun w1 hbx _ hp hg => ?_)
  have hb1 := below_of_grownBy hg
  have sw1 := hb1.size
  replace hv := hv.below hb1
  replace hb := hb.trans (hb1.mono hb.size)
  clear hg hp hb1
  generalize (⟨w.heap.size, 0, none⟩ : Addr) = p at *
  refine go ?_
  refine s_call1 (wn rfl) rfl rfl (l02Is_any _ _ _ hv) ?_
  rintro _ w2 ⟨rfl, hb2⟩
  have sw2 := hb2.size
  replace hv := hv.below hb2
  replace hbx := cell_below hbx hb2
  replace hb := hb.trans (hb2.mono hb.size)
  refine splitb (decide (IsMan ms)) (fun hm => ?_) (fun hm => ?_)
  rotate_left
  · have hm := of_decide_eq_false hm
    have e := sph_1 hm
    refine go ?_
    exact end_two Tryz.results22 rfl rfl ⟨by rw [e.1, e.2], hb⟩
  have hm' := of_decide_eq_true hm
  have r1 := hm'.m0.r1
  have r5 := hm'.m0.r5
  have f2 := hm'.m0.f2
  have f4 := hm'.m0.f400
  have shp := hv.sv
  refine go ?_
  refine cond_dec rfl (fun h3 => ?_) (fun h3 => ?_)
  · have e := sph_2 hm' (by omega)
    refine go ?_
    exact end_two Tryz.results22 rfl rfl ⟨by rw [e.1, e.2], hb⟩
  have h3' : ¬ ms.length < 3 := by omega
  have ec := sph_c hm' h3'
  refine go ?_
  have sbs1 := hb.size
  have hv_b1 := hv
  have hbx_b1 := hbx
  have hbB1 := Below.refl w2.heap.size w2
  refine w_loop (fun kk fr w' => ∃ (i : Nat), kk = ms.length - i ∧ i ≤ ms.length ∧ fr 1 = .pointer (some p) ∧ fr 4 = .int .i64 ms.length ∧ fr 5 = .int .i64 i ∧ (∀ j : Nat, j < i → SphAt ms j) ∧ Below w2.heap.size w2 w') (ms.length)
    ⟨0, rfl, Nat.zero_le _, rfl, rfl, rfl, fun j h => absurd h (by omega), hbB1⟩ ?_
  rintro kk fr w3 ⟨i, rfl, hi, f1, f4, f5, hS, hbB1⟩
  have sw3 := hbB1.size
  have hv := hv_b1.below hbB1
  have hbx := cell_below hbx_b1 hbB1
  refine know (t := 1) f1 ?_; refine know (t := 4) f4 ?_; refine know (t := 5) f5 ?_
  refine go ?_
  by_cases hc : (i + 2 < ms.length ∧ 3 < ms.length)
  rotate_left
  · have hS' : Sph ms := fun h j hj => hS j (by omega)
    have eS := sph_yes hm' h3' hS'
    by_cases hlt : (i : Int) + 2 < ms.length
    · have g2 : ¬ ((ms.length : Int) > 3) := by omega
      have g3 : ¬ ((3 : Int) < ms.length) := by omega
      refine go ?_
      exact end_two Tryz.results22 rfl rfl ⟨by rw [eS, ec], (hb.trans (hbB1.mono hb.size))⟩
    refine go ?_
    exact end_two Tryz.results22 rfl rfl ⟨by rw [eS, ec], (hb.trans (hbB1.mono hb.size))⟩
  obtain ⟨hc1, hc2⟩ := hc
  have g1 : (i : Int) + 2 < ms.length := by omega
  have g2 : (ms.length : Int) > 3 := by omega
  have g3 : (3 : Int) < ms.length := by omega
  have hok := sec_ok hm' (i := i) (by omega)
  have hlk := secA_like hm' hok
  have hiff := sphAt_iff hm' (i := i) (by omega)
  refine go ?_
  have sbs2 := hbB1.size
  have hv_b2 := hv
  have hbx_b2 := hbx
  have hbB2 := Below.refl w3.heap.size w3
  refine go ?_
  refine w_loop (fun kk fr w' => ∃ (t : Nat), kk = nf ms - t ∧ t ≤ nf ms ∧ fr 1 = .pointer (some p) ∧ fr 4 = .int .i64 ms.length ∧ fr 5 = .int .i64 i ∧ fr 6 = .int .i64 t ∧ (∀ j : Int, 0 ≤ j → j < t → chi (frm (nf ms) (secA ms i ((i : Int) + 2)) j) = 2) ∧ Below w3.heap.size w3 w') (nf ms)
    ⟨0, rfl, Nat.zero_le _, rfl, rfl, rfl, rfl, fun j h0 h => absurd h (by omega), hbB2⟩ ?_
  rintro kk fr w4 ⟨t, rfl, ht, f1, f4, f5, f6, hT, hbB2⟩
  have sw4 := hbB2.size
  have hv := hv_b2.below hbB2
  have hbx := cell_below hbx_b2 hbB2
  refine know (t := 1) f1 ?_; refine know (t := 4) f4 ?_; refine know (t := 5) f5 ?_; refine know (t := 6) f6 ?_
  refine go ?_
  refine go ?_
  refine s_call1 (wn rfl) rfl rfl (l02Flags_any _ _ _ hv r1) ?_
  rintro _ w5 ⟨rfl, hb5⟩
  have sw5 := hb5.size
  replace hv := hv.below hb5
  replace hbx := cell_below hbx hb5
  replace hbB2 := hbB2.trans (hb5.mono hbB2.size)
  refine go ?_
  refine cond_dec rfl (fun hlt2 => ?_) (fun hge2 => ?_)
  · have hmF := frm_man hlk (p := (t : Int)) (by omega)
    have hsA : frm (nf ms) ((ms.take ((i : Int) + 2 + 1).toNat).drop (i : Int).toNat) t = frm (nf ms) (secA ms i ((i : Int) + 2)) t := rfl
    refine go ?_
    refine s_call4 (wn rfl) rfl rfl rfl rfl rfl (l04Section_any _ _ (nf ms) (t : Int) (i : Int) ((i : Int) + 2) _ hv hm'.syst (by omega) ⟨by omega, by omega, by omega⟩ (by omega) (by omega)) ?_
    rintro _ w6 ⟨x, rfl, hX, hb6⟩
    have sw6 := hb6.size
    replace hv := hv.below hb6
    replace hbx := cell_below hbx hb6
    replace hbB2 := hbB2.trans (hb6.mono hbB2.size)
    rw [hsA] at hX
    generalize hKe : frm (nf ms) (secA ms i ((i : Int) + 2)) t = K at *
    have hfl := facN_len K
    have k5 := hmF.m0.r5
    have hch : chi K = eul (facN K) (facN K).length := by rw [hfl]; rfl
    refine go ?_
    refine s_call1 (wn rfl) rfl rfl (l02Counts_any _ _ _ hX.rl hmF) ?_
    rintro y w7 ⟨hy, hb7⟩
    have sw7 := hb7.size
    replace hv := hv.below hb7
    replace hbx := cell_below hbx hb7
    replace hbB2 := hbB2.trans (hb7.mono hbB2.size)
    refine go ?_
    refine s_call1 (wn rfl) rfl rfl (l02Euler_any _ _ _ hy.il (facN_rng hmF) (by omega)) ?_
    rintro _ _ ⟨rfl, rfl⟩
    rw [← hch]
    refine go ?_
    refine cond_dec rfl (fun hne => ?_) (fun hne => ?_)
    · have eS := sph_no (sph_spoil (ms := ms) (i := i) (by omega) hc2 fun hA => hne (by have := hiff.1 hA t (by omega) (by omega); rw [hKe] at this; exact this))
      refine go ?_
      exact end_two Tryz.results22 rfl rfl ⟨by rw [eS, ec], ((hb.trans (hbB1.mono hb.size)).trans (hbB2.mono (hb.trans (hbB1.mono hb.size)).size))⟩
    refine go ?_
    refine ⟨nf ms - (t + 1), by omega, t + 1, rfl, by omega, rfl, rfl, rfl, rfl, fun j h0 h => by
                  by_cases hj : j = t
                  · rw [hj, hKe]; exact Classical.not_not.1 hne
                  · exact hT j h0 (by omega), hbB2⟩
  obtain rfl : t = nf ms := by omega
  replace hbB1 := hbB1.trans (hbB2.mono hbB1.size)
  have hAt : SphAt ms i := hiff.2 fun j h0 h => hT j h0 h
  refine go ?_
  refine ⟨ms.length - (i + 1), by omega, i + 1, rfl, by omega, rfl, rfl, rfl, fun j h => by
            by_cases hj : j = i
            · rw [hj]; exact hAt
            · exact hS j (by omega), hbB1⟩

set_option maxHeartbeats 8000000 in
set_option maxRecDepth 100000 in
theorem SmallestPolygons_good (v : Value) (ms : List (List Int)) (w : World) (hv : RL w v ms) (hm : IsMan ms) :
    Ret Tryz.prog 23 #[.agg #[v]] w fun r w' => ∃ x, r = .tuple #[x, .int .i64 0] ∧ OI w' w.heap.size 2 x (smL ms (ms.length - 1)) ∧ Below w.heap.size w w' := by
  have shv := hv.sv
  have hb := Below.refl w.heap.size w
  refine enter1 24 Tryz.func23 rfl Tryz.ntmps23 rfl (fun fr => ?_)
  have d1 := decide_eq_true hm
  have r5 := hm.m0.r5
  have r1 := hm.m0.r1
  refine go ?_
  refine s_box (wn rfl) rfl rfl (agg_cells shv) (fun w1 hbx _ hp hg => ?_)
  have hb1 := below_of_grownBy hg
  have sw1 := hb1.size
  replace hv := hv.below hb1
  replace hb := hb.trans (hb1.mono hb.size)
  clear hg hp hb1
  generalize (⟨w.heap.size, 0, none⟩ : Addr) = p at *
  refine go ?_
  refine s_call1 (wn rfl) rfl rfl (isManiplex_any _ _ _ hv) ?_
  rintro _ w2 ⟨rfl, hb2⟩
  have sw2 := hb2.size
  replace hv := hv.below hb2
  replace hbx := cell_below hbx hb2
  replace hb := hb.trans (hb2.mono hb.size)
  rw [d1]
  refine go ?_
  refine s_call1 (wn rfl) rfl rfl (typeOf_any _ _ _ _ hv hbx hm) ?_
  rintro ty w3 ⟨hT, hb3⟩
  have sw3 := hb3.size
  replace hv := hv.below hb3
  replace hbx := cell_below hbx hb3
  replace hb := hb.trans (hb3.mono hb.size)
  have sT := hT.sv
  have hTl := typL_len ms (ms.length - 1)
  rw [hTl] at sT
  refine go ?_
  have sz0 := hb.size
  have sbs1 := hb.size
  have hv_b1 := hv
  have hbx_b1 := hbx
  have hT_b1 := hT
  have hbB1 := Below.refl w3.heap.size w3
  refine go ?_
  refine w_loop (fun kk fr w' => ∃ (i : Nat) (ob : Value), kk = ms.length - 1 - i ∧ i ≤ ms.length - 1 ∧ fr 4 = ob ∧ fr 10 = ty ∧ fr 11 = .int .i64 ((ms.length - 1 : Nat) : Int) ∧ fr 12 = .int .i64 i ∧ (OI w' w3.heap.size 2 ob (smL ms i)) ∧ Below w3.heap.size w3 w') (ms.length - 1)
    ⟨0, _, rfl, Nat.zero_le _, rfl, rfl, rfl, rfl, OI.nil _ _ _, hbB1⟩ ?_
  rintro kk fr w4 ⟨i, ob, rfl, hi, f4, f10, f11, f12, ho, hbB1⟩
  have sw4 := hbB1.size
  have hv := hv_b1.below hbB1
  have hbx := cell_below hbx_b1 hbB1
  have hT := hT_b1.below hbB1
  have sho := ho.sv
  refine know (t := 4) f4 ?_; refine know (t := 10) f10 ?_; refine know (t := 11) f11 ?_; refine know (t := 12) f12 ?_
  refine go ?_
  refine cond_dec rfl (fun hlt => ?_) (fun hge => ?_)
  · have hpos := typR_pos hm (i := i) (by omega)
    obtain ⟨u, hu, hcu⟩ := hT.rl.row (j := (i : Int)) (by omega) (by omega)
    rw [gr_typL (by omega)] at hu
    have su := hu.sv
    have hsl := smL_len ms i
    refine go ?_
    have szq5 := hbB1.size
    refine s_build1 (B := w3.heap.size) (wn rfl) rfl rfl szq5 (fun tb w5 ht st hg5 _ => ?_)
    have hb5 := below_of_grownBy hg5
    have sw5 := hb5.size
    replace hv := hv.below hb5
    replace hbx := cell_below hbx hb5
    replace hT := hT.below hb5
    replace ho := ho.below hb5
    replace hu := hu.below hb5
    replace hcu := cell_below hcu hb5
    replace hbB1 := hbB1.trans (hb5.mono hbB1.size)
    have szq6 := hbB1.size
    refine s_appendI (wn rfl) rfl rfl rfl ho ht.il (by first | omega | (simp; omega)) szq6 (fun ob' w6 hoN so hgN _ => ?_)
    replace hbB1 := hbB1.trans (ho.below_of hgN szq6)
    have sw6 := hgN.size
    replace ho := hoN
    clear hoN
    replace hv := hv_b1.below hbB1
    replace hbx := cell_below hbx_b1 hbB1
    replace hT := hT_b1.below hbB1
    refine go ?_
    refine ⟨ms.length - 1 - (i + 1), by omega, i + 1, ob', rfl, by omega, rfl, rfl, rfl, rfl, by rw [smL_succ]; exact ho, hbB1⟩
  obtain rfl : i = ms.length - 1 := by omega
  refine go ?_
  exact end_two Tryz.results23 rfl rfl ⟨_, rfl, ho.mono (by omega), (hb.trans (hbB1.mono hb.size))⟩

set_option maxHeartbeats 8000000 in
set_option maxRecDepth 100000 in
theorem DrawIsLocallySpherical_any (c : Value) (bs : List Int) (w : World) (hcl : CL w c bs) :
    Ret Tryz.prog 20 #[c] w fun r w' => ∃ x xss, r = .agg #[x] ∧ RL w' x xss ∧ Below w.heap.size w w' := by
  have sc := hcl.sv
  refine enter1 33 Tryz.func20 rfl Tryz.ntmps20 rfl (fun fr => ?_)
  refine go2 ?_
  refine s_alloc (B := w.heap.size) (wn rfl) rfl (Nat.le_refl _) (fun w0 p2 hx2 hg0 hp2 => ?_)
  have hb0 := below_of_grownBy hg0
  have z0 := hb0.size
  have hlt2 := hx2.lt
  refine go2 ?_
  refine s_call1 (wn rfl) rfl rfl (l01From_any c bs _ (hcl.below hb0)) ?_
  rintro _ v0 ⟨q, rfl, hs, hbf⟩
  have zf := hbf.size
  have hql := hs.lt
  have hq1 := hs.low
  replace hx2 := hx2.below hbf
  obtain ⟨B, hBe⟩ : ∃ B, B = w0.heap.size := ⟨_, rfl⟩
  rw [← hBe] at hs
  have hB1 := hb0.trans (hbf.mono z0)
  refine go2 ?_
  refine s_call2 (wn rfl) rfl rfl rfl (l02Spoil_any q B c bs 40 40 _ rfl (by omega) (by omega) hs) ?_
  rintro _ v1 ⟨x, xss, rfl, hm, hxl, hxr, hs', hgq⟩
  have zv1 := hgq.size
  replace hs := hs'
  replace hx2 := hx2.kept hgq (by intro e; have := Option.some.inj e; omega)
  have hg := hgq
  clear hgq
  refine go2 ?_
  refine s_alloc (B := v0.heap.size) (wn rfl) rfl (by first | exact Nat.le_refl _ | omega) (fun v2 p4 hx4 hga hpp4 => ?_)
  have hba := below_of_grownBy hga
  have zv2 := hba.size
  replace hs := hs.below hba
  replace hx2 := hx2.below hba
  replace hm := hm.below hba
  replace hg := gr_step hg (grownBy_of_below hba none) (fun k hk => by cases hk)
  clear hba hga
  have hltp4 := hx4.lt
  refine go2 ?_
  refine s_storeBox (wn rfl) rfl rfl hm.sv.one hx4 (fun v3 hxN hgp => ?_)
  have zv3 := hgp.size
  replace hs := hs.kept hgp (fun k hk => by cases hk; exact ⟨by have := hs.low; omega, by omega⟩)
  replace hx2 := hx2.kept hgp (by intro e; have := Option.some.inj e; omega)
  replace hm := hm.box hx4 (by decide) (by decide) hgp
  replace hx4 := hxN
  replace hg := gr_step hg hgp (fun k hk => by cases hk; omega)
  clear hgp
  have hc4 := hx4.cell
  have sm := hm.sv
  by_cases h3 : xss.length = 3
  rotate_left
  · have g0 : ¬ ((xss.length : Int) = 3) := by omega
    refine go2 ?_
    refine s_storeBox (wn rfl) rfl rfl hm.sv.one hx2 (fun v4 hxz hgz => ?_)
    have hmz := hm.box hx2 (by decide) (by decide) hgz
    have hB2 := hB1.trans (gr_below hg hB1.size (by omega))
    have hB3 := hB2.trans (hx2.below_of hgz hB2.size)
    refine go2 ?_
    exact end_cell Tryz.results20 rfl hxz.cell ⟨x, _, rfl, hmz.rl, hB3⟩
  have g0 : (xss.length : Int) = 3 := by omega
  refine go2 ?_
  refine s_call1 (wy rfl rfl rfl rfl rfl known) rfl rfl (l02Is_any _ _ _ hm.rl) ?_
  rintro _ v5 ⟨rfl, hbq⟩
  have zv5 := hbq.size
  replace hs := hs.below hbq
  replace hx2 := hx2.below hbq
  replace hm := hm.below hbq
  replace hx4 := hx4.below hbq
  replace hc4 := cell_below hc4 hbq
  replace hg := gr_step hg (grownBy_of_below hbq none) (fun k hk => by cases hk)
  clear hbq
  by_cases hM : IsMan xss
  rotate_left
  · refine go2 ?_
    refine s_storeBox (wn rfl) rfl rfl hm.sv.one hx2 (fun v6 hxz hgz => ?_)
    have hmz := hm.box hx2 (by decide) (by decide) hgz
    have hB2 := hB1.trans (gr_below hg hB1.size (by omega))
    have hB3 := hB2.trans (hx2.below_of hgz hB2.size)
    refine go2 ?_
    exact end_cell Tryz.results20 rfl hxz.cell ⟨x, _, rfl, hmz.rl, hB3⟩
  have f2 := hM.m0.f2
  have f4 := hM.m0.f400
  refine go2 ?_
  refine s_call1 (wy rfl rfl rfl rfl rfl known) rfl rfl (l02Flags_any _ _ _ hm.rl (by omega)) ?_
  rintro _ v7 ⟨rfl, hbq⟩
  have zv7 := hbq.size
  replace hs := hs.below hbq
  replace hx2 := hx2.below hbq
  replace hm := hm.below hbq
  replace hx4 := hx4.below hbq
  replace hc4 := cell_below hc4 hbq
  replace hg := gr_step hg (grownBy_of_below hbq none) (fun k hk => by cases hk)
  clear hbq
  by_cases h60 : (nf xss : Int) ≤ 60
  rotate_left
  · refine go2 ?_
    refine s_storeBox (wn rfl) rfl rfl hm.sv.one hx2 (fun v8 hxz hgz => ?_)
    have hmz := hm.box hx2 (by decide) (by decide) hgz
    have hB2 := hB1.trans (gr_below hg hB1.size (by omega))
    have hB3 := hB2.trans (hx2.below_of hgz hB2.size)
    refine go2 ?_
    exact end_cell Tryz.results20 rfl hxz.cell ⟨x, _, rfl, hmz.rl, hB3⟩
  refine go2 ?_
  refine s_call2 (wy rfl rfl rfl rfl rfl known) rfl rfl rfl (l01Next_any q 2 B c bs _ hs (by omega)) ?_
  rintro _ v9 ⟨k, rfl, hk0, hk, hs', hgq⟩
  have zv9 := hgq.size
  replace hs := hs'
  replace hx2 := hx2.kept hgq (by intro e; have := Option.some.inj e; omega)
  replace hm := hm.kept hgq (by omega)
  replace hx4 := hx4.kept hgq (by intro e; have := Option.some.inj e; omega)
  replace hc4 := cell_kept hc4 hgq (by intro e; have := Option.some.inj e; omega)
  replace hg := grownBy_trans hg hgq
  clear hgq
  refine go2 ?_
  refine cond_dec rfl (fun e0 => ?_) (fun e0 => ?_)
  · refine go2 ?_
    refine s_build2 (B := v0.heap.size) (wn rfl) rfl rfl rfl (by omega) (fun rv v10 hr sr hga _ => ?_)
    have hba := below_of_grownBy hga
    have zv10 := hba.size
    replace hs := hs.below hba
    replace hx2 := hx2.below hba
    replace hm := hm.below hba
    replace hx4 := hx4.below hba
    replace hc4 := cell_below hc4 hba
    replace hg := gr_step hg (grownBy_of_below hba none) (fun k hk => by cases hk)
    clear hba hga
    refine go2 ?_
    refine s_build1V (B := v0.heap.size) (wn rfl) rfl rfl sr.one (by omega) (fun ev v11 he se hga _ => ?_)
    have hba := below_of_grownBy hga
    have zv11 := hba.size
    replace hs := hs.below hba
    replace hx2 := hx2.below hba
    replace hm := hm.below hba
    replace hx4 := hx4.below hba
    replace hc4 := cell_below hc4 hba
    replace hr := hr.below hba
    replace hg := gr_step hg (grownBy_of_below hba none) (fun k hk => by cases hk)
    clear hba hga
    have hrl := RL.one he hr.il
    have hEs : Syst 2 [[1, 0]] := by
      intro m hm
      simp at hm; subst hm
      exact ⟨rfl, fun x hx => by simp at hx; rcases hx with rfl | rfl <;> omega⟩
    refine go2 ?_
    refine s_p (wn rfl) rfl (y_bld1 rfl se.one) ?_
    refine go2 ?_
    refine s_call2 (wn rfl) rfl rfl rfl (l02Beside_any _ _ _ _ (nf xss) 2 _ hm.rl hrl hM.syst hEs (by omega) (by decide) (by omega) (by decide) (by omega) (by omega) (by decide)) ?_
    rintro _ v12 ⟨y, yss, rfl, hd, hdl, hdy, hbq⟩
    have zv12 := hbq.size
    replace hs := hs.below hbq
    replace hx2 := hx2.below hbq
    replace hm := hm.below hbq
    replace hx4 := hx4.below hbq
    replace hc4 := cell_below hc4 hbq
    replace hr := hr.below hbq
    replace hg := gr_step hg (grownBy_of_below hbq none) (fun k hk => by cases hk)
    clear hbq
    replace hd := hd.mono (B' := v0.heap.size) (by omega)
    refine go2 ?_
    refine s_storeBox (wn rfl) rfl rfl hd.sv.one hx2 (fun v13 hxz hgz => ?_)
    have hmz := hd.box hx2 (by decide) (by decide) hgz
    have hB2 := hB1.trans (gr_below hg hB1.size (by omega))
    have hB3 := hB2.trans (hx2.below_of hgz hB2.size)
    refine go2 ?_
    exact end_cell Tryz.results20 rfl hxz.cell ⟨y, _, rfl, hmz.rl, hB3⟩
  refine go2 ?_
  refine s_storeBox (wn rfl) rfl rfl hm.sv.one hx2 (fun v14 hxz hgz => ?_)
  have hmz := hm.box hx2 (by decide) (by decide) hgz
  have hB2 := hB1.trans (gr_below hg hB1.size (by omega))
  have hB3 := hB2.trans (hx2.below_of hgz hB2.size)
  refine go2 ?_
  exact end_cell Tryz.results20 rfl hxz.cell ⟨x, _, rfl, hmz.rl, hB3⟩

end Go.Proofs.YtablpijnjkncfaaGreat
