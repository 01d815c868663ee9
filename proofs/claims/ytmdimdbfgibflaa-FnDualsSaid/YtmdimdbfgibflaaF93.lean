/- Contracts: sorting and compacting numbers, the sizes of orbits, the type of a maniplex. -/
import Derived.Test.YtmdimdbfgibflaaSf
import Derived.Test.YtmdimdbfgibflaaSb
import Derived.Test.YtmdimdbfgibflaaP45
import Derived.Test.YtmdimdbfgibflaaF72
import Derived.Test.YtmdimdbfgibflaaF46
namespace Go.Mem
open Go.RowKit
section
variable {P : Program} {n : Nat} {f : Fm} {w : World} {dst : Option Tmp} {ty : TypeId} {pos : String} {after : Array Edge} {g : Option (Nat × Bool)}
theorem y_cutR2 {x lo hi : Operand} {t e : TypeId} {z : Value} {bytes : Nat} [ht : SliceTy P t e] [he : CellTy P e z bytes] {v : Value} {xss : List (List Int)} {kl kh : IntKind} {l r : Int}
    (hx : lk n f x = some v) (hlo : lk n f lo = some (.int kl l)) (hhi : lk n f hi = some (.int kh r)) (h : RL w v xss) (h0 : 0 ≤ l) (hl : l ≤ r) (hr : r ≤ xss.length) :
    Yld P (evo n f) ⟨dst, .slice t x (some lo) (some hi) none, ty, pos, after, g⟩ w (cut v l.toNat r.toNat) := by
  obtain ⟨vs, h1, h2, _⟩ := h.out
  exact y_cut hx hlo hhi h1 h0 hl (by omega)
end
/-- the rows of a type -/
def typR (ms : List (List Int)) (i : Nat) : List Int := typRow ((typS ms i).map fun x => x / 2)
def typL (ms : List (List Int)) (k : Nat) : List (List Int) := (List.range k).map fun i : Nat => typR ms i
theorem typL_succ (ms : List (List Int)) (k : Nat) : typL ms (k + 1) = typL ms k ++ [typR ms k] := by simp [typL, List.range_succ]
theorem typL_len (ms : List (List Int)) (k : Nat) : (typL ms k).length = k := by simp [typL]
end Go.Mem
namespace Go.Proofs.Ytmdimdbfgibflaa
open Go.Mem Go.RowKit
set_option linter.unusedVariables false
set_option linter.unusedSimpArgs false

theorem Sort_any (v : Value) (xs : List Int) (B : Nat) (w : World) (hv : OI w B 2 v xs) (hne : xs ≠ []) (hl : xs.length ≤ 1000000) :
    Ret Try.prog 166 #[v] w fun r w' => OI w' B 2 v (xs.mergeSort fun x y => decide (x ≤ y)) ∧ w.grownBy w' v.ownBlock := by
  obtain ⟨g, off, cap, rfl, hb, hlt, hc, hH⟩ := hv.place hne
  have hcon := AnyG.slices_Sort_int Try.laysSort g off cap xs w hH hlt (by omega)
  change Calls Try.prog 166 _ _ _ at hcon
  refine Calls.mono hcon ?_
  rintro e w' ⟨he, n, os, hw⟩
  subst he
  subst hw
  have hp := (List.mergeSort_perm xs (fun x y => decide (x ≤ y))).length_eq
  obtain ⟨h1, h2⟩ := hv.put hne hp n os (k := xs.length) (by omega)
  rw [List.take_of_length_le (by omega)] at h1
  exact ⟨_, rfl, h1, h2⟩

theorem Compact_any (v : Value) (xs : List Int) (B : Nat) (w : World) (hv : OI w B 2 v xs) (hne : xs ≠ []) (hl : xs.length ≤ 1000000) :
    Ret Try.prog 167 #[v] w fun r w' => OI w' B 2 r (Lib.compactUpTo xs.toArray xs.length) ∧ w.grownBy w' v.ownBlock := by
  obtain ⟨g, off, cap, rfl, hb, hlt, hc, hH⟩ := hv.place hne
  have hcon := AnyG.slices_Compact_int_arr Try.laysCompact g off cap xs.toArray w hH (by simp; omega) (by simpa using hc)
  change Calls Try.prog 167 _ _ _ at hcon
  have hsz : xs.toArray.size = xs.length := by simp
  rw [hsz] at hcon
  have hle : (Lib.compactUpTo xs.toArray xs.length).length ≤ xs.length := by
    unfold Lib.compactUpTo
    rw [List.length_map]
    refine Nat.le_trans (List.length_filter_le _ _) (by simp)
  refine Calls.mono hcon ?_
  rintro e w' ⟨he, q, hw⟩
  subst he
  obtain ⟨h1, h2⟩ := hv.put hne (zs := Lib.compactUpTo xs.toArray xs.length ++ List.replicate (xs.length - (Lib.compactUpTo xs.toArray xs.length).length) 0) (by simp; omega) q #[] (k := (Lib.compactUpTo xs.toArray xs.length).length) (by simp)
  rw [Sort.grow_empty] at h1 h2
  rw [List.take_left' rfl] at h1
  have hw2 : w' = Sort.putRow (Value.int .i64) (Sort.ahead w q) g off (Lib.compactUpTo xs.toArray xs.length ++ List.replicate (xs.length - (Lib.compactUpTo xs.toArray xs.length).length) 0).toArray := hw
  subst hw2
  exact ⟨_, rfl, h1, h2⟩

set_option maxHeartbeats 8000000 in
set_option maxRecDepth 100000 in
theorem orbitSizes_any (v : Value) (m : Int) (xss : List (List Int)) (w : World) (hv : RL w v xss) (n : Nat) (em : m = n) (hs : Sym n xss) (hN : n ≤ 400) (hM : xss.length ≤ 1000) :
    Ret Try.prog 165 #[.int .i64 m, v] w fun r w' => OI w' w.heap.size 2 r (szs (labs n xss) (labc n xss).toNat n) ∧ Below w.heap.size w w' := by
  have shv := hv.sv
  have hb := Below.refl w.heap.size w
  refine enter2 32 Try.func165 rfl Try.ntmps165 rfl (fun fr => ?_)
  subst em
  have hL := labs_all hs (by omega)
  have hll := hL.len
  have hc0 := hL.c0
  refine go ?_
  refine s_call2 (wn rfl) rfl rfl rfl (orbitLabels_any _ _ n _ hv hs (by omega) hM) ?_
  rintro _ w1 ⟨lb, rfl, hl, hb1⟩
  have sw1 := hb1.size
  replace hv := hv.below hb1
  replace hb := hb.trans (hb1.mono hb.size)
  have sl := hl.sv
  rw [hll] at sl
  have sbs1 := hb.size
  have hv_b1 := hv
  have hl_b1 := hl
  have hbB1 := Below.refl w1.heap.size w1
  refine go ?_
  have szq2 := hbB1.size
  refine s_makeI (B := w1.heap.size) (wn rfl) rfl rfl rfl (by omega) (by omega) szq2 (fun rb w2 ho soho hg2 _ => ?_)
  have hb2 := below_of_grownBy hg2
  have sw2 := hb2.size
  replace hv := hv.below hb2
  replace hl := hl.below hb2
  replace hbB1 := hbB1.trans (hb2.mono hbB1.size)
  rw [← szs_0 (labs n xss)] at ho
  refine go ?_
  refine w_loop (fun kk fr w' => ∃ (i : Nat), kk = n - i ∧ i ≤ n ∧ fr 7 = rb ∧ fr 18 = lb ∧ fr 19 = .int .i64 n ∧ fr 20 = .int .i64 i ∧ (OI w' w1.heap.size 2 rb (szs (labs n xss) (labc n xss).toNat i)) ∧ Below w1.heap.size w1 w') (n)
    ⟨0, rfl, Nat.zero_le _, rfl, rfl, rfl, rfl, ho, hbB1⟩ ?_
  rintro kk fr w3 ⟨i, rfl, hi, f7, f18, f19, f20, ho, hbB1⟩
  have sw3 := hbB1.size
  have hv := hv_b1.below hbB1
  have hl := hl_b1.below hbB1
  have sho := ho.sv
  refine know (t := 7) f7 ?_; refine know (t := 18) f18 ?_; refine know (t := 19) f19 ?_; refine know (t := 20) f20 ?_
  refine go ?_
  have hzl := szs_len (labs n xss) (labc n xss).toNat i
  refine cond_dec rfl (fun hlt => ?_) (fun hge => ?_)
  · have hd := hL.done i (by omega) (by omega) (by omega)
    have hr := hL.rng i (by omega) (by omega)
    have hbd := szs_bound (L := labs n xss) (c := (labc n xss).toNat) (i := i) _ (gi_mem (j := gi (labs n xss) i) hd (by omega))
    have hnx := szs_succ (L := labs n xss) (c := (labc n xss).toNat) (i := i) (by omega) hd (by omega)
    refine go ?_
    have szq4 := hbB1.size
    refine s_storeI (wn rfl) rfl rfl ho (by omega) (by omega) (fun w4 hoN hgN => ?_)
    replace hbB1 := hbB1.trans (ho.below_of hgN szq4)
    have sw4 := hgN.size
    replace ho := hoN
    clear hoN
    replace hv := hv_b1.below hbB1
    replace hl := hl_b1.below hbB1
    rw [hnx] at ho
    refine go ?_
    refine ⟨n - (i + 1), by omega, i + 1, rfl, by omega, rfl, rfl, rfl, rfl, ho, hbB1⟩
  obtain rfl : i = n := by omega
  refine go ?_
  exact end_one Try.results165 rfl ⟨ho.mono (by have := hb.size; omega), (hb.trans (hbB1.mono hb.size))⟩

set_option maxHeartbeats 8000000 in
set_option maxRecDepth 100000 in
theorem typeOf_any (v : Value) (pv : Addr) (ms : List (List Int)) (w : World) (hv : RL w v ms) (hxv : w.cell? pv = some v) (hm : IsMan ms) :
    Ret Try.prog 120 #[.pointer (some pv)] w fun r w' => OM w' w.heap.size w'.heap.size 34 2 r (typL ms (ms.length - 1)) ∧ Below w.heap.size w w' := by
  have shv := hv.sv
  have hb := Below.refl w.heap.size w
  refine enter1 45 Try.func120 rfl Try.ntmps120 rfl (fun fr => ?_)
  have r1 := hm.m0.r1
  have r5 := hm.m0.r5
  have f4 := hm.m0.f400
  have f2 := hm.m0.f2
  have shv' := hv.sv
  refine go ?_
  refine s_call1 (wn rfl) rfl rfl (rank_any _ _ _ _ hxv shv') ?_
  rintro _ _ ⟨rfl, rfl⟩
  refine go ?_
  have sbs1 := hb.size
  have hv_b1 := hv
  have hxv_b1 := hxv
  have hbB1 := Below.refl w.heap.size w
  refine go ?_
  refine w_loop (fun kk fr w' => ∃ (i : Nat) (ob : Value), kk = (ms.length - 1) - i ∧ i ≤ (ms.length - 1) ∧ fr 0 = .pointer (some pv) ∧ fr 3 = ob ∧ fr 9 = .int .i64 ((ms.length : Int) - 1) ∧ fr 10 = .int .i64 i ∧ (OM w' w.heap.size w'.heap.size 34 2 ob (typL ms i)) ∧ (w.heap.size ≤ w'.heap.size) ∧ Below w.heap.size w w') ((ms.length - 1))
    ⟨0, _, rfl, Nat.zero_le _, rfl, rfl, rfl, rfl, OM.nil _ _ _ _ _, Nat.le_refl _, hbB1⟩ ?_
  rintro kk fr w1 ⟨i, ob, rfl, hi, f0, f3, f9, f10, ho, hge, hbB1⟩
  have sw1 := hbB1.size
  have hv := hv_b1.below hbB1
  have hxv := cell_below hxv_b1 hbB1
  have sho := ho.sv
  refine know (t := 0) f0 ?_; refine know (t := 3) f3 ?_; refine know (t := 9) f9 ?_; refine know (t := 10) f10 ?_
  refine go ?_
  refine cond_dec rfl (fun hlt => ?_) (fun hge => ?_)
  · replace ho := ho.top
    have hlen := typL_len ms i
    have hsy := two_sym hm i
    have hL := labs_all hsy (by omega)
    have e2 : ((i : Int) + 2).toNat = i + 2 := by omega
    have e1 : ((i : Int)).toNat = i := by omega
    refine go ?_
    have sbs2 := hbB1.size
    have hv_b2 := hv
    have hxv_b2 := hxv
    have ho_b2 := ho
    have hbB2 := Below.refl w1.heap.size w1
    refine region_h mixed (fun w2 hc2 => ?_)
    have swr2 := hc2.size
    refine h_p 0 hc2 ?_
    refine h_p 2 hc2 ?_
    refine h_p 3 hc2 ?_
    refine h_p 4 hc2 ?_
    refine h_p 5 hc2 ?_
    refine h_p 6 hc2 ?_
    refine h_p 7 hc2 ?_
    refine h_p 8 hc2 ?_
    refine h_p 9 hc2 ?_ (hrun := fun w' hb => y_cutR2 rfl rfl rfl (hv.below hb) (by omega) (by omega) (by omega))
    refine h_one 1 ?_
    refine s_call1 (wn rfl) rfl rfl (flags_any _ _ _ _ (cell_below hxv hc2) (hv.below hc2) r1) ?_
    rintro _ _ ⟨rfl, rfl⟩
    refine w_nil ?_
    refine h_on ⟨hc2, ?_⟩
    have hcut := (hv.below hc2).cut (l := i) (r := i + 2) (by omega) (by omega)
    rw [List.drop_take, show i + 2 - i = 2 by omega] at hcut
    rw [e1, e2]
    have scut := hcut.sv
    have hcl : ((ms.drop i).take 2).length ≤ 1000 := by simp; omega
    refine h_one 10 ?_
    refine s_call2 (wn rfl) rfl rfl rfl (orbitSizes_any _ _ _ _ hcut (nf ms) rfl hsy (by omega) hcl) ?_
    rintro sv w3 ⟨hS, hb3⟩
    have hc3 := hc2.trans (hb3.mono hc2.size)
    refine w_nil ?_
    refine h_on ⟨hc3, ?_⟩
    refine h_p 11 hc3 ?_
    refine h_nil ?_
    have sw3 := hc3.size
    replace hv := hv.below hc3
    replace hxv := cell_below hxv hc3
    replace ho := ho.below hc3
    replace hbB2 := hbB2.trans (hc3.mono hbB2.size)
    replace hS := hS.mono (B' := w1.heap.size) (by omega)
    have hSl := szs_len (labs (nf ms) ((ms.drop i).take 2)) (labc (nf ms) ((ms.drop i).take 2)).toNat (nf ms)
    have hc0 := hL.c0
    have hcp : 1 ≤ labc (nf ms) ((ms.drop i).take 2) := by
      have h1 := hL.done 0 (by omega) (by omega) (by omega)
      have h2 := hL.rng 0 (by omega) (by omega)
      omega
    have hSb := fun x hx => szs_bound (L := labs (nf ms) ((ms.drop i).take 2)) (c := (labc (nf ms) ((ms.drop i).take 2)).toNat) (i := nf ms) x hx
    have hTy : szs (labs (nf ms) ((ms.drop i).take 2)) (labc (nf ms) ((ms.drop i).take 2)).toNat (nf ms) = typS ms i := rfl
    have hll := hL.len
    rw [hTy] at hS hSl hSb
    rw [hll] at hSb
    generalize hSS : typS ms i = S at *
    have hS1 : 1 ≤ S.length := by omega
    have hS4 : S.length ≤ 400 := by omega
    rw [← hlf_0 S] at hS
    have sS := hS.sv
    rw [hlf_len] at sS
    refine go ?_
    refine w_loop (fun kk fr w' => ∃ (k : Nat), kk = S.length - k ∧ k ≤ S.length ∧ fr 0 = .pointer (some pv) ∧ fr 3 = ob ∧ fr 9 = .int .i64 ((ms.length : Int) - 1) ∧ fr 10 = .int .i64 i ∧ fr 5 = sv ∧ fr 24 = sv ∧ fr 25 = .int .i64 S.length ∧ fr 26 = .int .i64 k ∧ (OI w' w1.heap.size 2 sv (hlf S k)) ∧ Below w1.heap.size w1 w') (S.length)
      ⟨0, rfl, Nat.zero_le _, rfl, rfl, rfl, rfl, rfl, rfl, rfl, rfl, hS, hbB2⟩ ?_
    rintro kk fr w4 ⟨k, rfl, hk, f0, f3, f9, f10, f5, f24, f25, f26, hS, hbB2⟩
    have sw4 := hbB2.size
    have hv := hv_b2.below hbB2
    have hxv := cell_below hxv_b2 hbB2
    have ho := ho_b2.below hbB2
    have shS := hS.sv
    refine know (t := 0) f0 ?_; refine know (t := 3) f3 ?_; refine know (t := 9) f9 ?_; refine know (t := 10) f10 ?_; refine know (t := 5) f5 ?_; refine know (t := 24) f24 ?_; refine know (t := 25) f25 ?_; refine know (t := 26) f26 ?_
    refine go ?_
    have hhl := hlf_len S k
    refine cond_dec rfl (fun hltk => ?_) (fun hgek => ?_)
    · have hgk := gi_hlf (S := S) (k := k) (by omega)
      have hnx := hlf_succ (S := S) (k := k) (by omega)
      have hbk := hSb _ (gi_in (xs := S) (j := k) (by omega))
      refine go ?_
      have szq5 := hbB2.size
      refine s_storeI (wn rfl) rfl rfl hS (by omega) (by omega) (fun w5 hoN hgN => ?_)
      replace hbB2 := hbB2.trans (hS.below_of hgN szq5)
      have sw5 := hgN.size
      replace hS := hoN
      clear hoN
      replace hv := hv_b2.below hbB2
      replace hxv := cell_below hxv_b2 hbB2
      replace ho := ho_b2.below hbB2
      rw [hgk, hnx] at hS
      refine go ?_
      refine ⟨S.length - (k + 1), by omega, k + 1, rfl, by omega, rfl, rfl, rfl, rfl, rfl, rfl, rfl, rfl, hS, hbB2⟩
    obtain rfl : k = S.length := by omega
    rw [hlf_all] at hS
    clear shS
    have hml : (S.map fun x => x / 2).length = S.length := List.length_map _
    have hmn : (S.map fun x => x / 2) ≠ [] := fun e => by rw [e] at hml; simp at hml; omega
    have hRow : typR ms i = typRow (S.map fun x => x / 2) := by unfold typR; rw [hSS]
    generalize (S.map fun x => x / 2) = H at *
    refine go ?_
    have szq6 := hbB2.size
    refine s_call1 (wn rfl) rfl rfl (Sort_any _ _ _ _ hS hmn (by omega)) ?_
    rintro _ w6 ⟨hSN, hgN⟩
    replace hbB2 := hbB2.trans (hS.below_of hgN szq6)
    have sw6 := hgN.size
    have hT := hSN
    replace hv := hv_b2.below hbB2
    replace hxv := cell_below hxv_b2 hbB2
    replace ho := ho_b2.below hbB2
    have hpl := (List.mergeSort_perm H (fun x y => decide (x ≤ y))).length_eq
    have hpn : H.mergeSort (fun x y => decide (x ≤ y)) ≠ [] := fun e => by rw [e] at hpl; simp at hpl; omega
    have sT := hT.sv
    have hS := hT
    clear hT
    refine go ?_
    have szq7 := hbB2.size
    refine s_call1 (wn rfl) rfl rfl (Compact_any _ _ _ _ hS hpn (by omega)) ?_
    rintro rv w7 ⟨hSN, hgN⟩
    replace hbB2 := hbB2.trans (hS.below_of hgN szq7)
    have sw7 := hgN.size
    have hR := hSN
    replace hv := hv_b2.below hbB2
    replace hxv := cell_below hxv_b2 hbB2
    replace ho := ho_b2.below hbB2
    rw [hpl, show Lib.compactUpTo (H.mergeSort fun x y => decide (x ≤ y)).toArray H.length = typRow H from rfl, ← hRow] at hR
    have sR := hR.sv
    replace hbB1 := hbB1.trans (hbB2.mono hbB1.size)
    refine go ?_
    have szq8 := hbB1.size
    refine s_build1V (B := w.heap.size) (wn rfl) rfl rfl hR.sv.one szq8 (fun tb w8 ht st hg8 _ => ?_)
    have hb8 := below_of_grownBy hg8
    have sw8 := hb8.size
    replace hv := hv.below hb8
    replace hxv := cell_below hxv hb8
    replace ho := ho.below hb8
    replace hR := hR.below hb8
    replace hbB1 := hbB1.trans (hb8.mono hbB1.size)
    have szq9 := hbB1.size
    refine s_appendM (wn rfl) rfl rfl rfl ho ht.rd hR (by omega) (by decide) (by omega) szq9 (fun ob' w9 hoN so hgN => ?_)
    replace hbB1 := hbB1.trans (ho.below_of hgN szq9)
    have sw9 := hgN.size
    replace ho := hoN
    clear hoN
    replace hv := hv_b1.below hbB1
    replace hxv := cell_below hxv_b1 hbB1
    refine go ?_
    refine ⟨(ms.length - 1) - (i + 1), by omega, i + 1, ob', rfl, by omega, rfl, rfl, rfl, rfl, by rw [typL_succ]; exact ho, by omega, hbB1⟩
  obtain rfl : i = (ms.length - 1) := by omega
  refine go ?_
  exact end_one Try.results120 rfl ⟨ho.mono (by have := hb.size; omega), (hb.trans (hbB1.mono hb.size))⟩

set_option maxHeartbeats 8000000 in
set_option maxRecDepth 100000 in
theorem TypeOf_good (v : Value) (ms : List (List Int)) (w : World) (hv : RL w v ms) (hm : IsMan ms) :
    Ret Try.prog 58 #[.agg #[v]] w fun r w' => ∃ x, r = .tuple #[x, .int .i64 0] ∧ OM w' w.heap.size w'.heap.size 34 2 x (typL ms (ms.length - 1)) ∧ Below w.heap.size w w' := by
  have shv := hv.sv
  have hb := Below.refl w.heap.size w
  refine enter1 8 Try.func58 rfl Try.ntmps58 rfl (fun fr => ?_)
  have d1 := decide_eq_true hm
  refine go ?_
  refine s_box (wn rfl) rfl rfl (agg_cells shv) (fun w1 hbx _ hp hg => ?_)
  have hb1 := below_of_grownBy hg
  have sw1 := hb1.size
  replace hv := hv.below hb1
  replace hb := hb.trans (hb1.mono hb.size)
  clear hg hp hb1
  generalize (⟨w.heap.size, 0, none⟩ : Addr) = p at *
  refine go ?_
  refine s_call1 (wn rfl) rfl rfl (isManiplex_any _ _ _ hv) ?_
  rintro _ w2 ⟨rfl, hb2⟩
  have sw2 := hb2.size
  replace hv := hv.below hb2
  replace hbx := cell_below hbx hb2
  replace hb := hb.trans (hb2.mono hb.size)
  rw [d1]
  have sz2 := hb.size
  refine go ?_
  refine s_call1 (wn rfl) rfl rfl (typeOf_any _ _ _ _ hv hbx hm) ?_
  rintro lx w3 ⟨hl, hb3⟩
  have sw3 := hb3.size
  replace hv := hv.below hb3
  replace hbx := cell_below hbx hb3
  replace hb := hb.trans (hb3.mono hb.size)
  refine go ?_
  exact end_two Try.results58 rfl rfl ⟨lx, rfl, hl.mono (by omega), hb⟩

end Go.Proofs.Ytmdimdbfgibflaa
