/- Contracts: ExtendManiplex, ExtendInside, on both sides. -/
import Derived.Test.YtmdimdbfgibflaaF33
import Derived.Test.YtmdimdbfgibflaaRp
namespace Go.Mem
set_option linter.unusedVariables false
/-- the neighbour of a number: 0 1, 2 3, .. -/
def tg (f : Int) : Int := if f % 2 = 0 then f + 1 else f - 1
def exch (n : Nat) : List Int := (List.range (2 * n)).map fun f : Nat => tg f
/-- a move on two flags for each one; up to the flag k -/
def dblTo (m : List Int) (k : Nat) : List Int := (List.range k).map fun f : Nat => 2 * gi m ((f / 2 : Nat) : Int) + ((f % 2 : Nat) : Int)
def dbl (m : List Int) : List Int := dblTo m (2 * m.length)
theorem dblTo_succ (m : List Int) (k : Nat) : dblTo m (k + 1) = dblTo m k ++ [2 * gi m ((k / 2 : Nat) : Int) + ((k % 2 : Nat) : Int)] := by
  unfold dblTo; rw [List.range_succ, List.map_append]; rfl
theorem dblTo_len (m : List Int) (k : Nat) : (dblTo m k).length = k := by simp [dblTo]
theorem dblTo_two (m : List Int) (k : Nat) : dblTo m (2 * (k + 1)) = dblTo m (2 * k) ++ [2 * gi m k, 2 * gi m k + 1] := by
  rw [show 2 * (k + 1) = 2 * k + 1 + 1 by omega, dblTo_succ, dblTo_succ, show 2 * k / 2 = k by omega, show 2 * k % 2 = 0 by omega, show (2 * k + 1) / 2 = k by omega, show (2 * k + 1) % 2 = 1 by omega]
  simp
theorem exch_len (n : Nat) : (exch n).length = 2 * n := by simp [exch]
/-- the first i numbers have been exchanged -/
def exTo (k i : Nat) : List Int := (List.range k).map fun f : Nat => if f < i then tg f else (f : Int)
theorem exTo_len (k i : Nat) : (exTo k i).length = k := by simp [exTo]
theorem exTo_0 (k : Nat) : exTo k 0 = idl k := by simp [exTo, idl]
theorem exTo_all (n : Nat) : exTo (2 * n) (2 * n) = exch n := by
  unfold exTo exch
  refine List.map_congr_left fun f hf => ?_
  rw [if_pos (List.mem_range.1 hf)]
theorem exTo_gi {k i : Nat} (hi : i < k) : gi (exTo k i) i = i := by
  unfold exTo
  rw [gi_range_map (by omega) (by omega)]; simp
theorem exTo_step {k i : Nat} (hi : i < k) : seti (exTo k i) i (tg i) = exTo k (i + 1) := by
  refine list_ext_gi (by simp [seti, exTo_len]) fun x h0 hx => ?_
  have hxk : x < k := by simpa [seti, exTo_len] using hx
  rw [gi_seti _ _ _ _ (by omega) (by rw [exTo_len]; omega) h0]
  unfold exTo
  rw [gi_range_map h0 hxk, gi_range_map h0 hxk]
  split
  · rename_i e; subst e; rw [if_pos (by omega)]; congr 1
  · rename_i e
    by_cases h : x.toNat < i
    · rw [if_pos h, if_pos (by omega)]
    · rw [if_neg h, if_neg (by omega)]
theorem tg_bound {i : Nat} (h : i ≤ 1000) : 0 ≤ tg i ∧ tg i ≤ 1001 := by unfold tg; split <;> omega
section
variable {ms : List (List Int)} {b : Bool}
noncomputable def extC (ms : List (List Int)) : Int := if IsMan ms then (if ms.length = 5 then 5 else if 200 < nf ms then 3 else 0) else 1
noncomputable def extL (ms : List (List Int)) (b : Bool) : List (List Int) := if extC ms = 0 then (if b then exch (nf ms) :: ms.map dbl else ms.map dbl ++ [exch (nf ms)]) else []
theorem ext_1 (h : ¬ IsMan ms) : extL ms b = [] ∧ extC ms = 1 := by
  have e : extC ms = 1 := if_neg h
  exact ⟨if_neg (by rw [e]; decide), e⟩
theorem ext_2 (hm : IsMan ms) (h : ms.length = 5) : extL ms b = [] ∧ extC ms = 5 := by
  have e : extC ms = 5 := by unfold extC; rw [if_pos hm, if_pos h]
  exact ⟨if_neg (by rw [e]; decide), e⟩
theorem ext_3 (hm : IsMan ms) (h : ¬ ms.length = 5) (h2 : 200 < nf ms) : extL ms b = [] ∧ extC ms = 3 := by
  have e : extC ms = 3 := by unfold extC; rw [if_pos hm, if_neg h, if_pos h2]
  exact ⟨if_neg (by rw [e]; decide), e⟩
theorem ext_4 (hm : IsMan ms) (h : ¬ ms.length = 5) (h2 : ¬ 200 < nf ms) : extL ms b = (if b then exch (nf ms) :: ms.map dbl else ms.map dbl ++ [exch (nf ms)]) ∧ extC ms = 0 := by
  have e : extC ms = 0 := by unfold extC; rw [if_pos hm, if_neg h, if_neg h2]
  exact ⟨if_pos e, e⟩
theorem extC_0 (h : extC ms = 0) : IsMan ms ∧ ¬ ms.length = 5 ∧ ¬ 200 < nf ms := by
  unfold extC at h
  by_cases h1 : IsMan ms
  · rw [if_pos h1] at h
    by_cases h2 : ms.length = 5
    · rw [if_pos h2] at h; exact absurd h (by decide)
    · rw [if_neg h2] at h
      by_cases h3 : 200 < nf ms
      · rw [if_pos h3] at h; exact absurd h (by decide)
      · exact ⟨h1, h2, h3⟩
  · rw [if_neg h1] at h; exact absurd h (by decide)
theorem extL_len (ms : List (List Int)) (b : Bool) : 1 + tot (extL ms b) ≤ 4000000000000000000 := by
  unfold extL
  split
  · rename_i h
    obtain ⟨hm, h5, h2⟩ := extC_0 h
    have r5 := hm.m0.r5
    have key : ∀ xs ∈ ms.map dbl, xs.length ≤ 1000 := fun xs hx => by
      obtain ⟨m, hm', rfl⟩ := List.mem_map.1 hx
      have := (hm.syst m hm').1
      simp [dbl, dblTo_len]; omega
    refine rows_tot (n := 1000) (by split <;> simp <;> omega) (fun xs hx => ?_) (by omega)
    split at hx
    · rcases List.mem_cons.1 hx with rfl | hx
      · rw [exch_len]; omega
      · exact key xs hx
    · rcases List.mem_append.1 hx with hx | hx
      · exact key xs hx
      · simp at hx; subst hx; rw [exch_len]; omega
  · simp [tot]
end
end Go.Mem
namespace Go.Proofs.Ytmdimdbfgibflaa
open Go.Mem Go.RowKit
set_option linter.unusedVariables false
set_option linter.unusedSimpArgs false

set_option maxHeartbeats 8000000 in
set_option maxRecDepth 100000 in
theorem l05Extend_any (v : Value) (ms : List (List Int)) (b : Bool) (w : World) (hv : RL w v ms) :
    Ret Try.prog 97 #[.agg #[v], .bool b] w fun r w' => ∃ x, r = .tuple #[.agg #[x], .int .i64 (extC ms)] ∧ OM w' w.heap.size w'.heap.size 34 2 x (extL ms b) ∧ Below w.heap.size w w' := by
  have shv := hv.sv
  have hb := Below.refl w.heap.size w
  refine enter2 85 Try.func97 rfl Try.ntmps97 rfl (fun fr => ?_)
  refine go ?_
  refine s_box (wn rfl) rfl rfl (agg_cells shv) (fun w1 hbx _ hp hg => ?_)
  have hb1 := below_of_grownBy hg
  have sw1 := hb1.size
  replace hv := hv.below hb1
  replace hb := hb.trans (hb1.mono hb.size)
  clear hg hp hb1
  generalize (⟨w.heap.size, 0, none⟩ : Addr) = p at *
  have sz0 := hb.size
  refine go ?_
  refine s_alloc (B := w.heap.size) (wn rfl) rfl (by first | exact Nat.le_refl _ | omega) (fun w2 p4 hx4 hg2 hpp4 => ?_)
  have hb2 := below_of_grownBy hg2
  have sw2 := hb2.size
  replace hv := hv.below hb2
  replace hbx := cell_below hbx hb2
  replace hb := hb.trans (hb2.mono hb.size)
  have hlt_hx4 := hx4.lt
  have sz1 := hb.size
  refine go ?_
  refine s_call1 (wn rfl) rfl rfl (l02Is_any _ _ _ hv) ?_
  rintro _ w3 ⟨rfl, hb3⟩
  have sw3 := hb3.size
  replace hv := hv.below hb3
  replace hbx := cell_below hbx hb3
  replace hx4 := hx4.below hb3
  replace hb := hb.trans (hb3.mono hb.size)
  refine splitb (decide (IsMan ms)) (fun hm => ?_) (fun hm => ?_)
  rotate_left
  · have hm' := of_decide_eq_false hm
    have e := ext_1 (b := b) hm'
    have hbY := hb
    refine go ?_
    refine s_p (wn rfl) rfl y_bld0 ?_
    refine s_storeBox (wn rfl) rfl rfl rfl hx4 (fun w4 hxz hgz => ?_)
    have hbz := hbY.trans (hx4.below_of hgz hbY.size)
    refine go ?_
    exact end_cellT Try.results97 rfl rfl hxz.cell ⟨_, by rw [e.2], by rw [e.1]; exact OM.nil _ _ _ _ _, hbz⟩
  have hm' := of_decide_eq_true hm
  have r5 := hm'.m0.r5
  have r1 := hm'.m0.r1
  have f4 := hm'.m0.f400
  refine go ?_
  by_cases h5 : ms.length = 5
  · have e := ext_2 (b := b) hm' h5
    have h5' : (ms.length : Int) = 5 := by omega
    have hbY := hb
    refine go ?_
    refine s_p (wn rfl) rfl y_bld0 ?_
    refine s_storeBox (wn rfl) rfl rfl rfl hx4 (fun w5 hxz hgz => ?_)
    have hbz := hbY.trans (hx4.below_of hgz hbY.size)
    refine go ?_
    exact end_cellT Try.results97 rfl rfl hxz.cell ⟨_, by rw [e.2], by rw [e.1]; exact OM.nil _ _ _ _ _, hbz⟩
  have h5' : ¬ (ms.length : Int) = 5 := by omega
  refine go ?_
  refine s_call1 (wn rfl) rfl rfl (l02Flags_any _ _ _ hv r1) ?_
  rintro _ w6 ⟨rfl, hb6⟩
  have sw6 := hb6.size
  replace hv := hv.below hb6
  replace hbx := cell_below hbx hb6
  replace hx4 := hx4.below hb6
  replace hb := hb.trans (hb6.mono hb.size)
  by_cases h2 : 200 < nf ms
  · have e := ext_3 (b := b) hm' h5 h2
    have h2' : (200 : Int) < nf ms := by omega
    have hbY := hb
    refine go ?_
    refine s_p (wn rfl) rfl y_bld0 ?_
    refine s_storeBox (wn rfl) rfl rfl rfl hx4 (fun w7 hxz hgz => ?_)
    have hbz := hbY.trans (hx4.below_of hgz hbY.size)
    refine go ?_
    exact end_cellT Try.results97 rfl rfl hxz.cell ⟨_, by rw [e.2], by rw [e.1]; exact OM.nil _ _ _ _ _, hbz⟩
  have h2' : ¬ (200 : Int) < nf ms := by omega
  have e := ext_4 (b := b) hm' h5 h2
  have sbs1 := hb.size
  have hv_b1 := hv
  have hbx_b1 := hbx
  have hx4_b1 := hx4
  have hbB1 := Below.refl w6.heap.size w6
  refine go ?_
  have szq8 := hbB1.size
  refine s_build0 (B := w6.heap.size) (wn rfl) rfl szq8 (fun tb0 w8 ht0 so hg8 _ => ?_)
  have hb8 := below_of_grownBy hg8
  have sw8 := hb8.size
  replace hv := hv.below hb8
  replace hbx := cell_below hbx hb8
  replace hx4 := hx4.below hb8
  replace hbB1 := hbB1.trans (hb8.mono hbB1.size)
  refine go ?_
  have szq9 := hbB1.size
  refine s_build (B := w6.heap.size) [] (wn rfl) rfl (by simp) (by decide) rfl (by simp) szq9 (fun mb w9 hm0 hg9 _ => ?_)
  have hb9 := below_of_grownBy hg9
  have sw9 := hb9.size
  replace hv := hv.below hb9
  replace hbx := cell_below hbx hb9
  replace hx4 := hx4.below hb9
  replace ht0 := ht0.below hb9
  replace hbB1 := hbB1.trans (hb9.mono hbB1.size)
  refine go ?_
  refine w_loop (fun kk fr w' => ∃ (i : Nat) (trn : Value), kk = 2 * nf ms - i ∧ i ≤ 2 * nf ms ∧ fr 1 = .bool b ∧ fr 2 = .pointer (some p) ∧ fr 4 = .pointer (some p4) ∧ fr 6 = trn ∧ fr 7 = mb ∧ fr 8 = .int .i64 i ∧ (OI w' w6.heap.size 2 trn ((List.range i).map fun f : Nat => tg f)) ∧ (Own w' w6.heap.size 34 mb []) ∧ Below w6.heap.size w6 w') (2 * nf ms)
    ⟨0, tb0, rfl, Nat.zero_le _, rfl, rfl, rfl, rfl, rfl, rfl, ht0, hm0, hbB1⟩ ?_
  rintro kk fr w10 ⟨i, trn, rfl, hi, f1, f2, f4, f6, f7, f8, htu, hm0, hbB1⟩
  have sw10 := hbB1.size
  have hv := hv_b1.below hbB1
  have hbx := cell_below hbx_b1 hbB1
  have hx4 := hx4_b1.below hbB1
  have shtu := htu.sv
  have shm0 := hm0.sv
  refine know (t := 1) f1 ?_; refine know (t := 2) f2 ?_; refine know (t := 4) f4 ?_; refine know (t := 6) f6 ?_; refine know (t := 7) f7 ?_; refine know (t := 8) f8 ?_
  refine go ?_
  refine s_call1 (wn rfl) rfl rfl (l02Flags_any _ _ _ hv r1) ?_
  rintro _ w11 ⟨rfl, hb11⟩
  have sw11 := hb11.size
  replace hv := hv.below hb11
  replace hbx := cell_below hbx hb11
  replace hx4 := hx4.below hb11
  replace htu := htu.below hb11
  replace hm0 := hm0.below hb11
  replace hbB1 := hbB1.trans (hb11.mono hbB1.size)
  refine go ?_
  refine s_p (wn rfl) rfl (y_mul rfl rfl (by omega)) ?_
  refine go ?_
  refine cond_dec rfl (fun hlt => ?_) (fun hge => ?_)
  · refine go ?_
    refine s_p (wn rfl) rfl (y_xor1 rfl ⟨by omega, by omega⟩) ?_
    have etg : (if (i : Int) % 2 = 0 then (i : Int) + 1 else (i : Int) - 1) = tg i := rfl
    rw [etg]
    refine go ?_
    have hne := hm0.apart_type htu.own (by decide)
    have szq12 := hbB1.size
    refine s_build1 (B := w6.heap.size) (wn rfl) rfl rfl szq12 (fun tb w12 ht st hg12 _ => ?_)
    have hb12 := below_of_grownBy hg12
    have sw12 := hb12.size
    replace hv := hv.below hb12
    replace hbx := cell_below hbx hb12
    replace hx4 := hx4.below hb12
    replace htu := htu.below hb12
    replace hm0 := hm0.below hb12
    replace hbB1 := hbB1.trans (hb12.mono hbB1.size)
    have szq13 := hbB1.size
    refine s_appendI (wn rfl) rfl rfl rfl htu ht.il (by simp; omega) szq13 (fun trn' w13 hoN so hgN _ => ?_)
    replace hbB1 := hbB1.trans (htu.below_of hgN szq13)
    have sw13 := hgN.size
    replace htu := hoN
    clear hoN
    replace hv := hv_b1.below hbB1
    replace hbx := cell_below hbx_b1 hbB1
    replace hx4 := hx4_b1.below hbB1
    replace hm0 := hm0.kept hgN hne
    refine go ?_
    refine ⟨2 * nf ms - (i + 1), by omega, i + 1, trn', rfl, by omega, rfl, rfl, rfl, rfl, rfl, rfl, by simpa [List.range_succ] using htu, hm0, hbB1⟩
  obtain rfl : i = 2 * nf ms := by omega
  have het : (List.range (2 * nf ms)).map (fun f : Nat => tg f) = exch (nf ms) := rfl
  rw [het] at htu
  have swE := hbB1.size
  have hm : OM2 w11 w6.heap.size w11.heap.size w11.heap.size 34 2 mb ((ms.take 0).map dbl) := OM2.start hm0
  have htlt : ∀ g, trn.ownBlock = some g → g < w11.heap.size := fun g hg => (htu.lt g hg).2
  refine go ?_
  refine w_loop (fun kk fr w' => ∃ (i : Nat) (ob : Value), kk = ms.length - i ∧ i ≤ ms.length ∧ fr 1 = .bool b ∧ fr 2 = .pointer (some p) ∧ fr 4 = .pointer (some p4) ∧ fr 6 = trn ∧ fr 7 = ob ∧ fr 9 = .int .i64 i ∧ (OI w' w6.heap.size 2 trn (exch (nf ms))) ∧ (OM2 w' w6.heap.size w11.heap.size w'.heap.size 34 2 ob ((ms.take i).map dbl)) ∧ (w11.heap.size ≤ w'.heap.size) ∧ Below w6.heap.size w6 w') (ms.length)
    ⟨0, mb, rfl, Nat.zero_le _, rfl, rfl, rfl, rfl, rfl, rfl, htu, hm, Nat.le_refl _, hbB1⟩ ?_
  rintro kk fr w14 ⟨i, ob, rfl, hi, f1, f2, f4, f6, f7, f9, htu, hm, hlow, hbB1⟩
  have sw14 := hbB1.size
  have hv := hv_b1.below hbB1
  have hbx := cell_below hbx_b1 hbB1
  have hx4 := hx4_b1.below hbB1
  have shtu := htu.sv
  have shm := hm.sv
  refine know (t := 1) f1 ?_; refine know (t := 2) f2 ?_; refine know (t := 4) f4 ?_; refine know (t := 6) f6 ?_; refine know (t := 7) f7 ?_; refine know (t := 9) f9 ?_
  refine go ?_
  refine cond_dec rfl (fun hlt => ?_) (fun hge => ?_)
  · replace hm := hm.top
    have hrow := (hm'.syst.row (j := (i : Int)) (by omega) (by omega)).1
    have hne2 := htu.apart_OM2 hm (by decide)
    have sbs2 := hbB1.size
    have hv_b2 := hv
    have hbx_b2 := hbx
    have hx4_b2 := hx4
    have htu_b2 := htu
    have hm_b2 := hm
    have hbB2 := Below.refl w14.heap.size w14
    obtain ⟨u, hu_b2, hcu_b2⟩ := hv_b2.row (j := (i : Int)) (by omega) hlt
    have su := hu_b2.sv
    have hu := hu_b2.below hbB2
    have hcu := cell_below hcu_b2 hbB2
    refine go ?_
    have szq15 := hbB2.size
    refine s_build0 (B := w14.heap.size) (wn rfl) rfl szq15 (fun rb w15 hr so hg15 _ => ?_)
    have hb15 := below_of_grownBy hg15
    have sw15 := hb15.size
    replace hv := hv.below hb15
    replace hbx := cell_below hbx hb15
    replace hx4 := hx4.below hb15
    replace htu := htu.below hb15
    replace hm := hm.below hb15
    replace hu := hu.below hb15
    replace hcu := cell_below hcu hb15
    replace hbB2 := hbB2.trans (hb15.mono hbB2.size)
    refine go ?_
    refine w_loop (fun kk fr w' => ∃ (q : Nat) (rb : Value), kk = 2 * nf ms - q ∧ q ≤ 2 * nf ms ∧ fr 1 = .bool b ∧ fr 2 = .pointer (some p) ∧ fr 4 = .pointer (some p4) ∧ fr 6 = trn ∧ fr 7 = ob ∧ fr 9 = .int .i64 i ∧ fr 10 = rb ∧ fr 11 = .int .i64 q ∧ (OI w' w14.heap.size 2 rb (dblTo (gr ms i) q)) ∧ Below w14.heap.size w14 w') (2 * nf ms)
      ⟨0, rb, rfl, Nat.zero_le _, rfl, rfl, rfl, rfl, rfl, rfl, rfl, rfl, hr, hbB2⟩ ?_
    rintro kk fr w16 ⟨q, rb, rfl, hq, f1, f2, f4, f6, f7, f9, f10, f11, hr, hbB2⟩
    have sw16 := hbB2.size
    have hv := hv_b2.below hbB2
    have hbx := cell_below hbx_b2 hbB2
    have hx4 := hx4_b2.below hbB2
    have htu := htu_b2.below hbB2
    have hm := hm_b2.below hbB2
    have hu := hu_b2.below hbB2
    have hcu := cell_below hcu_b2 hbB2
    have shr := hr.sv
    refine know (t := 1) f1 ?_; refine know (t := 2) f2 ?_; refine know (t := 4) f4 ?_; refine know (t := 6) f6 ?_; refine know (t := 7) f7 ?_; refine know (t := 9) f9 ?_; refine know (t := 10) f10 ?_; refine know (t := 11) f11 ?_
    refine go ?_
    have hdl := dblTo_len (gr ms i) q
    refine s_call1 (wn rfl) rfl rfl (l02Flags_any _ _ _ hv r1) ?_
    rintro _ w17 ⟨rfl, hb17⟩
    have sw17 := hb17.size
    replace hv := hv.below hb17
    replace hbx := cell_below hbx hb17
    replace hx4 := hx4.below hb17
    replace htu := htu.below hb17
    replace hm := hm.below hb17
    replace hu := hu.below hb17
    replace hcu := cell_below hcu hb17
    replace hr := hr.below hb17
    replace hbB2 := hbB2.trans (hb17.mono hbB2.size)
    refine go ?_
    refine s_p (wn rfl) rfl (y_mul rfl rfl (by omega)) ?_
    refine go ?_
    refine cond_dec rfl (fun hlt2 => ?_) (fun hge2 => ?_)
    · have hgq := hm'.syst.at (j := (i : Int)) (x := (q : Int) / 2) (by omega) (by omega) ⟨by omega, by omega⟩
      have e1 : ((q / 2 : Nat) : Int) = (q : Int) / 2 := by omega
      have e2 : ((q % 2 : Nat) : Int) = (q : Int) % 2 := by omega
      refine go ?_
      refine s_p (wn rfl) rfl (y_mul rfl rfl (by omega)) ?_
      refine go ?_
      have szq18 := hbB2.size
      refine s_build1 (B := w14.heap.size) (wn rfl) rfl rfl szq18 (fun tb w18 ht st hg18 _ => ?_)
      have hb18 := below_of_grownBy hg18
      have sw18 := hb18.size
      replace hv := hv.below hb18
      replace hbx := cell_below hbx hb18
      replace hx4 := hx4.below hb18
      replace htu := htu.below hb18
      replace hm := hm.below hb18
      replace hu := hu.below hb18
      replace hcu := cell_below hcu hb18
      replace hr := hr.below hb18
      replace hbB2 := hbB2.trans (hb18.mono hbB2.size)
      have szq19 := hbB2.size
      refine s_appendI (wn rfl) rfl rfl rfl hr ht.il (by simp [hdl]; omega) szq19 (fun rb' w19 hoN so hgN _ => ?_)
      replace hbB2 := hbB2.trans (hr.below_of hgN szq19)
      have sw19 := hgN.size
      replace hr := hoN
      clear hoN
      replace hv := hv_b2.below hbB2
      replace hbx := cell_below hbx_b2 hbB2
      replace hx4 := hx4_b2.below hbB2
      replace htu := htu_b2.below hbB2
      replace hm := hm_b2.below hbB2
      replace hu := hu_b2.below hbB2
      replace hcu := cell_below hcu_b2 hbB2
      refine go ?_
      refine ⟨2 * nf ms - (q + 1), by omega, q + 1, rb', rfl, by omega, rfl, rfl, rfl, rfl, rfl, rfl, rfl, rfl, by rw [dblTo_succ, e1, e2]; exact hr, hbB2⟩
    obtain rfl : q = 2 * nf ms := by omega
    replace hbB1 := hbB1.trans (hbB2.mono hbB1.size)
    have hdd : dblTo (gr ms i) (2 * nf ms) = dbl (gr ms i) := by unfold dbl; rw [hrow]
    rw [hdd] at hr
    refine go ?_
    have szq20 := hbB1.size
    refine s_build1V (B := w6.heap.size) (wn rfl) rfl rfl hr.sv.one szq20 (fun tb w20 ht st hg20 _ => ?_)
    have hb20 := below_of_grownBy hg20
    have sw20 := hb20.size
    replace hv := hv.below hb20
    replace hbx := cell_below hbx hb20
    replace hx4 := hx4.below hb20
    replace htu := htu.below hb20
    replace hm := hm.below hb20
    replace hu := hu.below hb20
    replace hcu := cell_below hcu hb20
    replace hr := hr.below hb20
    replace hbB1 := hbB1.trans (hb20.mono hbB1.size)
    have szq21 := hbB1.size
    refine s_appendQ (wn rfl) rfl rfl rfl hm ht.rd hr (by omega) (by decide) (by simp; omega) szq21 (fun ob' w21 hoN so hgN => ?_)
    replace hbB1 := hbB1.trans (hm.below_of hgN szq21)
    have sw21 := hgN.size
    replace hm := hoN
    clear hoN
    replace hv := hv_b1.below hbB1
    replace hbx := cell_below hbx_b1 hbB1
    replace hx4 := hx4_b1.below hbB1
    replace htu := htu.kept hgN hne2
    refine go ?_
    refine ⟨ms.length - (i + 1), by omega, i + 1, ob', rfl, by omega, rfl, rfl, rfl, rfl, rfl, rfl, htu, by rw [frm_take (by omega)]; exact hm, by omega, hbB1⟩
  obtain rfl : i = ms.length := by omega
  rw [List.take_length] at hm
  obtain ⟨us, hm1, hm2⟩ := hm.out
  have hl2 := hm2.len
  have hml : (ms.map dbl).length = ms.length := by simp
  refine go ?_
  refine splitb b (fun hib => ?_) (fun hib => ?_)
  · subst hib
    refine go ?_
    refine s_build1V (B := w14.heap.size) (wn rfl) rfl rfl htu.sv.one (Nat.le_refl _) (fun xb w22 hxb sxb hg22 _ => ?_)
    have hb22 := below_of_grownBy hg22
    have sw22 := hb22.size
    replace hv := hv.below hb22
    replace hbx := cell_below hbx hb22
    replace hx4 := hx4.below hb22
    replace htu := htu.below hb22
    replace hm := hm.below hb22
    replace hm1 := hm1.below hb22
    replace hm2 := hm2.below hb22
    replace hbB1 := hbB1.trans (hb22.mono hbB1.size)
    refine go ?_
    have hrt := Rws.one' htu htlt
    have hszc := hbB1.size
    refine s_appendRR (B3 := w6.heap.size) (wn rfl) rfl rfl rfl hxb hrt hm1.rd hm2 (.inl (Nat.le_refl _)) (Nat.le_refl _) (by omega) (by omega) (by decide) (by simp; omega) (by omega) (fun x w23 hx so hgN => ?_)
    replace hbB1 := hbB1.trans (grownBy_below hgN (by omega) (fun k hk => by have := (hxb.lt k hk).1; omega))
    have swN := hgN.size
    replace hv := hv_b1.below hbB1
    replace hbx := cell_below hbx_b1 hbB1
    replace hx4 := hx4_b1.below hbB1
    refine go ?_
    refine s_p (wn rfl) rfl (y_bld1 rfl hx.sv.one) ?_
    have hbY := (hb.trans (hbB1.mono hb.size))
    refine go ?_
    refine s_storeBox (wn rfl) rfl rfl hx.sv.one hx4 (fun w24 hxz hgz => ?_)
    have hbz := hbY.trans (hx4.below_of hgz hbY.size)
    have hxN := hx.kept hgz (by omega)
    refine go ?_
    exact end_cellT Try.results97 rfl rfl hxz.cell ⟨x, by rw [e.2], by rw [e.1]; exact (hxN.mono (by omega)).top, hbz⟩
  · subst hib
    refine go ?_
    refine s_build1V (B := w14.heap.size) (wn rfl) rfl rfl htu.sv.one (Nat.le_refl _) (fun xb w25 hxb sxb hg25 _ => ?_)
    have hb25 := below_of_grownBy hg25
    have sw25 := hb25.size
    replace hv := hv.below hb25
    replace hbx := cell_below hbx hb25
    replace hx4 := hx4.below hb25
    replace htu := htu.below hb25
    replace hm := hm.below hb25
    replace hm1 := hm1.below hb25
    replace hm2 := hm2.below hb25
    replace hbB1 := hbB1.trans (hb25.mono hbB1.size)
    refine go ?_
    have hrt := Rws.one' htu htlt
    have hszc := hbB1.size
    refine s_appendRR (B3 := w6.heap.size) (wn rfl) rfl rfl rfl hm1 hm2 hxb.rd hrt (.inr (Nat.le_refl _)) (by omega) (Nat.le_refl _) (by omega) (by decide) (by simp; omega) (by omega) (fun x w26 hx so hgN => ?_)
    replace hbB1 := hbB1.trans (grownBy_below hgN (by omega) (fun k hk => (hm1.lt k hk).1))
    have swN := hgN.size
    replace hv := hv_b1.below hbB1
    replace hbx := cell_below hbx_b1 hbB1
    replace hx4 := hx4_b1.below hbB1
    refine go ?_
    refine s_p (wn rfl) rfl (y_bld1 rfl hx.sv.one) ?_
    have hbY := (hb.trans (hbB1.mono hb.size))
    refine go ?_
    refine s_storeBox (wn rfl) rfl rfl hx.sv.one hx4 (fun w27 hxz hgz => ?_)
    have hbz := hbY.trans (hx4.below_of hgz hbY.size)
    have hxN := hx.kept hgz (by omega)
    refine go ?_
    exact end_cellT Try.results97 rfl rfl hxz.cell ⟨x, by rw [e.2], by rw [e.1]; exact (hxN.mono (by omega)).top, hbz⟩

set_option maxHeartbeats 8000000 in
set_option maxRecDepth 100000 in
theorem specExtendManiplex_any (v : Value) (ms : List (List Int)) (w : World) (hv : RL w v ms) :
    Ret Try.prog 31 #[.agg #[v]] w fun r w' => ∃ x, r = .tuple #[.agg #[x], .int .i64 (extC ms)] ∧ OM w' w.heap.size w'.heap.size 34 2 x (extL ms false) ∧ Below w.heap.size w w' := by
  have shv := hv.sv
  have hb := Below.refl w.heap.size w
  refine enter1 13 Try.func31 rfl Try.ntmps31 rfl (fun fr => ?_)
  refine go ?_
  refine s_box (wn rfl) rfl rfl (agg_cells shv) (fun w1 hbx _ hp hg => ?_)
  have hb1 := below_of_grownBy hg
  have sw1 := hb1.size
  replace hv := hv.below hb1
  replace hb := hb.trans (hb1.mono hb.size)
  clear hg hp hb1
  generalize (⟨w.heap.size, 0, none⟩ : Addr) = p at *
  have sz0 := hb.size
  refine go ?_
  refine s_alloc (B := w.heap.size) (wn rfl) rfl (by first | exact Nat.le_refl _ | omega) (fun w2 p2 hx4 hg2 hpp2 => ?_)
  have hb2 := below_of_grownBy hg2
  have sw2 := hb2.size
  replace hv := hv.below hb2
  replace hbx := cell_below hbx hb2
  replace hb := hb.trans (hb2.mono hb.size)
  have hlt_hx4 := hx4.lt
  have sz1 := hb.size
  refine go ?_
  refine s_call2 (wn rfl) rfl rfl rfl (l05Extend_any _ _ false _ hv) ?_
  rintro _ w3 ⟨x, rfl, hx, hb3⟩
  have sw3 := hb3.size
  replace hv := hv.below hb3
  replace hbx := cell_below hbx hb3
  replace hx4 := hx4.below hb3
  replace hb := hb.trans (hb3.mono hb.size)
  refine go ?_
  refine s_alloc (B := w3.heap.size) (wn rfl) rfl (Nat.le_refl _) (fun w4 p5 hx5 hg4 hpp5 => ?_)
  have hb4 := below_of_grownBy hg4
  refine go ?_
  refine s_storeBox (wn rfl) rfl rfl hx.sv.one hx5 (fun w5 hx5b hg5 => ?_)
  have hbq5 := hb4.trans (hx5.below_of hg5 hb4.size)
  have sw5 := hbq5.size
  replace hv := hv.below hbq5
  replace hbx := cell_below hbx hbq5
  replace hx4 := hx4.below hbq5
  replace hx := hx.below hbq5
  replace hb := hb.trans (hbq5.mono hb.size)
  have hc5 := hx5b.cell
  have hbY := hb
  refine go ?_
  refine s_storeBox (wn rfl) rfl rfl hx.sv.one hx4 (fun w6 hxz hgz => ?_)
  have hbz := hbY.trans (hx4.below_of hgz hbY.size)
  have hxN := hx.kept hgz (by omega)
  refine go ?_
  exact end_cellT Try.results31 rfl rfl hxz.cell ⟨x, rfl, (hxN.mono (by omega)).top, hbz⟩

set_option maxHeartbeats 8000000 in
set_option maxRecDepth 100000 in
theorem extensionCode_any (v : Value) (ms : List (List Int)) (w : World) (hv : RL w v ms) :
    Ret Try.prog 94 #[.agg #[v]] w fun r w' => r = .int .i64 (extC ms) ∧ Below w.heap.size w w' := by
  have shv := hv.sv
  have hb := Below.refl w.heap.size w
  refine enter1 13 Try.func94 rfl Try.ntmps94 rfl (fun fr => ?_)
  refine go ?_
  refine s_box (wn rfl) rfl rfl (agg_cells shv) (fun w1 hbx _ hp hg => ?_)
  have hb1 := below_of_grownBy hg
  have sw1 := hb1.size
  replace hv := hv.below hb1
  replace hb := hb.trans (hb1.mono hb.size)
  clear hg hp hb1
  generalize (⟨w.heap.size, 0, none⟩ : Addr) = p at *
  refine go ?_
  refine s_call1 (wn rfl) rfl rfl (isManiplex_any _ _ _ hv) ?_
  rintro _ w2 ⟨rfl, hb2⟩
  have sw2 := hb2.size
  replace hv := hv.below hb2
  replace hbx := cell_below hbx hb2
  replace hb := hb.trans (hb2.mono hb.size)
  refine splitb (decide (IsMan ms)) (fun hm => ?_) (fun hm => ?_)
  rotate_left
  · have hm' := of_decide_eq_false hm
    have e := (ext_1 (b := true) hm').2
    refine go ?_
    exact end_one Try.results94 rfl ⟨by rw [e], hb⟩
  have hm' := of_decide_eq_true hm
  have r5 := hm'.m0.r5
  have r1 := hm'.m0.r1
  refine go ?_
  refine s_call1 (wn rfl) rfl rfl (rank_any _ _ _ _ hbx hv.sv) ?_
  rintro _ _ ⟨rfl, rfl⟩
  by_cases h5 : ms.length = 5
  · have e := (ext_2 (b := true) hm' h5).2
    have h5' : (ms.length : Int) = 5 := by omega
    refine go ?_
    exact end_one Try.results94 rfl ⟨by rw [e], hb⟩
  have h5' : ¬ (ms.length : Int) = 5 := by omega
  refine go ?_
  refine s_call1 (wn rfl) rfl rfl (flags_any _ _ _ _ hbx hv r1) ?_
  rintro _ _ ⟨rfl, rfl⟩
  by_cases h2 : 200 < nf ms
  · have e := (ext_3 (b := true) hm' h5 h2).2
    have h2' : (200 : Int) < nf ms := by omega
    refine go ?_
    exact end_one Try.results94 rfl ⟨by rw [e], hb⟩
  have h2' : ¬ (200 : Int) < nf ms := by omega
  have e := (ext_4 (b := true) hm' h5 h2).2
  refine go ?_
  exact end_one Try.results94 rfl ⟨by rw [e], hb⟩

set_option maxHeartbeats 8000000 in
set_option maxRecDepth 100000 in
theorem exchange_any (v : Value) (ms : List (List Int)) (w : World) (hv : RL w v ms) (hm : IsMan ms) (h2 : ¬ 200 < nf ms) :
    Ret Try.prog 96 #[.agg #[v]] w fun r w' => OI w' w.heap.size 2 r (exch (nf ms)) ∧ Below w.heap.size w w' := by
  have shv := hv.sv
  have hb := Below.refl w.heap.size w
  refine enter1 21 Try.func96 rfl Try.ntmps96 rfl (fun fr => ?_)
  have r1 := hm.m0.r1
  have f2 := hm.m0.f2
  refine go ?_
  refine s_box (wn rfl) rfl rfl (agg_cells shv) (fun w1 hbx _ hp hg => ?_)
  have hb1 := below_of_grownBy hg
  have sw1 := hb1.size
  replace hv := hv.below hb1
  replace hb := hb.trans (hb1.mono hb.size)
  clear hg hp hb1
  generalize (⟨w.heap.size, 0, none⟩ : Addr) = p at *
  have sz0 := hb.size
  refine go ?_
  refine s_call1 (wn rfl) rfl rfl (flags_any _ _ _ _ hbx hv r1) ?_
  rintro _ _ ⟨rfl, rfl⟩
  refine go ?_
  refine s_p (wn rfl) rfl (y_mul rfl rfl (by omega)) ?_
  have sbs1 := hb.size
  have hv_b1 := hv
  have hbx_b1 := hbx
  have hbB1 := Below.refl w1.heap.size w1
  have e2n : (2 : Int) * (nf ms : Int) = ((2 * nf ms : Nat) : Int) := by omega
  rw [e2n]
  refine go ?_
  refine s_call1 (wn rfl) rfl rfl (identity_any _ (2 * nf ms) (by omega)) ?_
  rintro ob w2 ⟨ho, hb2⟩
  have sw2 := hb2.size
  replace hv := hv.below hb2
  replace hbx := cell_below hbx hb2
  replace hbB1 := hbB1.trans (hb2.mono hbB1.size)
  rw [← exTo_0] at ho
  have so := ho.sv
  have hel := exTo_len (2 * nf ms) 0
  refine go ?_
  refine w_loop (fun kk fr w' => ∃ (i : Nat), kk = 2 * nf ms - i ∧ i ≤ 2 * nf ms ∧ fr 3 = ob ∧ fr 9 = .int .i64 ((2 * nf ms : Nat) : Int) ∧ fr 10 = .int .i64 i ∧ (OI w' w1.heap.size 2 ob (exTo (2 * nf ms) i)) ∧ Below w1.heap.size w1 w') (2 * nf ms)
    ⟨0, rfl, Nat.zero_le _, rfl, by rw [hel]; rfl, rfl, ho, hbB1⟩ ?_
  rintro kk fr w3 ⟨i, rfl, hi, f3, f9, f10, ho, hbB1⟩
  have sw3 := hbB1.size
  have hv := hv_b1.below hbB1
  have hbx := cell_below hbx_b1 hbB1
  have sho := ho.sv
  refine know (t := 3) f3 ?_; refine know (t := 9) f9 ?_; refine know (t := 10) f10 ?_
  refine go ?_
  have hel2 := exTo_len (2 * nf ms) i
  refine cond_dec rfl (fun hlt => ?_) (fun hge => ?_)
  · have hgi := exTo_gi (k := 2 * nf ms) (i := i) (by omega)
    have hes := exTo_step (k := 2 * nf ms) (i := i) (by omega)
    refine go ?_
    rw [hgi]
    refine s_p (wn rfl) rfl (y_xor1 rfl ⟨by omega, by omega⟩) ?_
    have etg : (if (i : Int) % 2 = 0 then (i : Int) + 1 else (i : Int) - 1) = tg i := rfl
    rw [etg]
    refine go ?_
    have szq4 := hbB1.size
    refine s_storeI (wn rfl) rfl rfl ho (by omega) (by omega) (fun w4 hoN hgN => ?_)
    replace hbB1 := hbB1.trans (ho.below_of hgN szq4)
    have sw4 := hgN.size
    replace ho := hoN
    clear hoN
    replace hv := hv_b1.below hbB1
    replace hbx := cell_below hbx_b1 hbB1
    rw [hes] at ho
    refine go ?_
    refine ⟨2 * nf ms - (i + 1), by omega, i + 1, rfl, by omega, rfl, rfl, rfl, ho, hbB1⟩
  obtain rfl : i = 2 * nf ms := by omega
  rw [exTo_all] at ho
  refine go ?_
  exact end_one Try.results96 rfl ⟨ho.mono sz0, (hb.trans (hbB1.mono hb.size))⟩

set_option maxHeartbeats 8000000 in
set_option maxRecDepth 100000 in
theorem doubled_any (v : Value) (ms : List (List Int)) (w : World) (hv : RL w v ms) (hm : IsMan ms) (h2 : ¬ 200 < nf ms) :
    Ret Try.prog 95 #[.agg #[v]] w fun r w' => OM w' w.heap.size w'.heap.size 34 2 r (ms.map dbl) ∧ Below w.heap.size w w' := by
  have shv := hv.sv
  have hb := Below.refl w.heap.size w
  refine enter1 37 Try.func95 rfl Try.ntmps95 rfl (fun fr => ?_)
  have r1 := hm.m0.r1
  have r5 := hm.m0.r5
  refine go ?_
  refine s_box (wn rfl) rfl rfl (agg_cells shv) (fun w1 hbx _ hp hg => ?_)
  have hb1 := below_of_grownBy hg
  have sw1 := hb1.size
  replace hv := hv.below hb1
  replace hb := hb.trans (hb1.mono hb.size)
  clear hg hp hb1
  generalize (⟨w.heap.size, 0, none⟩ : Addr) = p at *
  have sbs1 := hb.size
  have hv_b1 := hv
  have hbx_b1 := hbx
  have hbB1 := Below.refl w1.heap.size w1
  obtain ⟨a0, hcap⟩ : ∃ a0 : Value, a0 = v := ⟨v, rfl⟩
  refine go ?_
  refine w_loop (fun kk fr w' => ∃ (i : Nat) (ob : Value), kk = ms.length - i ∧ i ≤ ms.length ∧ fr 1 = .pointer (some p) ∧ fr 3 = ob ∧ fr 10 = v ∧ fr 11 = .int .i64 ms.length ∧ fr 12 = .int .i64 i ∧ (OM w' w1.heap.size w'.heap.size 34 2 ob ((ms.take i).map dbl)) ∧ Below w1.heap.size w1 w') (ms.length)
    ⟨0, _, rfl, Nat.zero_le _, rfl, rfl, rfl, rfl, rfl, OM.nil _ _ _ _ _, hbB1⟩ ?_
  rintro kk fr w2 ⟨i, ob, rfl, hi, f1, f3, f10, f11, f12, ho, hbB1⟩
  have sw2 := hbB1.size
  have hv := hv_b1.below hbB1
  have hbx := cell_below hbx_b1 hbB1
  have sho := ho.sv
  refine know (t := 1) f1 ?_; refine know (t := 3) f3 ?_; refine know (t := 10) f10 ?_; refine know (t := 11) f11 ?_; refine know (t := 12) f12 ?_
  refine go ?_
  refine cond_dec rfl (fun hlt => ?_) (fun hge => ?_)
  · replace ho := ho.top
    have hrow := (hm.syst.row (j := (i : Int)) (by omega) (by omega)).1
    have sbs2 := hbB1.size
    have hv_b2 := hv
    have hbx_b2 := hbx
    have ho_b2 := ho
    have hbB2 := Below.refl w2.heap.size w2
    obtain ⟨u, hu_b2, hcu_b2⟩ := hv_b2.row (j := (i : Int)) (by omega) hlt
    have su := hu_b2.sv
    have hu := hu_b2.below hbB2
    have hcu := cell_below hcu_b2 hbB2
    refine go ?_
    refine w_loop (fun kk fr w' => ∃ (q : Nat) (rb : Value), kk = nf ms - q ∧ q ≤ nf ms ∧ fr 1 = .pointer (some p) ∧ fr 3 = ob ∧ fr 10 = v ∧ fr 11 = .int .i64 ms.length ∧ fr 12 = .int .i64 i ∧ fr 5 = u ∧ fr 6 = rb ∧ fr 16 = u ∧ fr 17 = .int .i64 (nf ms) ∧ fr 18 = .int .i64 q ∧ (OI w' w2.heap.size 2 rb (dblTo (gr ms i) (2 * q))) ∧ Below w2.heap.size w2 w') (nf ms)
      ⟨0, _, rfl, Nat.zero_le _, rfl, rfl, rfl, rfl, rfl, rfl, rfl, rfl, by rw [hrow]; rfl, rfl, OI.nil _ _ _, hbB2⟩ ?_
    rintro kk fr w3 ⟨q, rb, rfl, hq, f1, f3, f10, f11, f12, f5, f6, f16, f17, f18, hr, hbB2⟩
    have sw3 := hbB2.size
    have hv := hv_b2.below hbB2
    have hbx := cell_below hbx_b2 hbB2
    have ho := ho_b2.below hbB2
    have hu := hu_b2.below hbB2
    have hcu := cell_below hcu_b2 hbB2
    have shr := hr.sv
    refine know (t := 1) f1 ?_; refine know (t := 3) f3 ?_; refine know (t := 10) f10 ?_; refine know (t := 11) f11 ?_; refine know (t := 12) f12 ?_; refine know (t := 5) f5 ?_; refine know (t := 6) f6 ?_; refine know (t := 16) f16 ?_; refine know (t := 17) f17 ?_; refine know (t := 18) f18 ?_
    refine go ?_
    have hdl := dblTo_len (gr ms i) (2 * q)
    refine cond_dec rfl (fun hlt2 => ?_) (fun hge2 => ?_)
    · have hgq := hm.syst.at (j := (i : Int)) (x := (q : Int)) (by omega) (by omega) ⟨by omega, by omega⟩
      refine go ?_
      refine s_p (wn rfl) rfl (y_mul rfl rfl (by omega)) ?_
      refine go ?_
      refine s_p (wn rfl) rfl (y_mul rfl rfl (by omega)) ?_
      refine go ?_
      refine s_build2 (B := w3.heap.size) (wn rfl) rfl rfl rfl (Nat.le_refl _) (fun tb w4 ht st hg4 _ => ?_)
      have hb4 := below_of_grownBy hg4
      have sw4 := hb4.size
      replace hv := hv.below hb4
      replace hbx := cell_below hbx hb4
      replace ho := ho.below hb4
      replace hu := hu.below hb4
      replace hcu := cell_below hcu hb4
      replace hr := hr.below hb4
      replace hbB2 := hbB2.trans (hb4.mono hbB2.size)
      have szq5 := hbB2.size
      refine s_appendI (wn rfl) rfl rfl rfl hr ht.il (by simp [hdl]; omega) (by omega) (fun rb' w5 hoN so hgN _ => ?_)
      replace hbB2 := hbB2.trans (hr.below_of hgN (by omega))
      have sw5 := hgN.size
      replace hr := hoN
      clear hoN
      replace hv := hv_b2.below hbB2
      replace hbx := cell_below hbx_b2 hbB2
      replace ho := ho_b2.below hbB2
      replace hu := hu_b2.below hbB2
      replace hcu := cell_below hcu_b2 hbB2
      refine go ?_
      refine ⟨nf ms - (q + 1), by omega, q + 1, rb', rfl, by omega, rfl, rfl, rfl, rfl, rfl, rfl, rfl, rfl, rfl, rfl, by rw [dblTo_two]; exact hr, hbB2⟩
    obtain rfl : q = nf ms := by omega
    replace hbB1 := hbB1.trans (hbB2.mono hbB1.size)
    have hdd : dblTo (gr ms i) (2 * nf ms) = dbl (gr ms i) := by unfold dbl; rw [hrow]
    rw [hdd] at hr
    refine go ?_
    have szq6 := hbB1.size
    refine s_build1V (B := w1.heap.size) (wn rfl) rfl rfl hr.sv.one szq6 (fun tb w6 ht st hg6 _ => ?_)
    have hb6 := below_of_grownBy hg6
    have sw6 := hb6.size
    replace hv := hv.below hb6
    replace hbx := cell_below hbx hb6
    replace ho := ho.below hb6
    replace hu := hu.below hb6
    replace hcu := cell_below hcu hb6
    replace hr := hr.below hb6
    replace hbB1 := hbB1.trans (hb6.mono hbB1.size)
    have szq7 := hbB1.size
    refine s_appendM (wn rfl) rfl rfl rfl ho ht.rd hr (by omega) (by decide) (by simp; omega) szq7 (fun ob' w7 hoN so hgN => ?_)
    replace hbB1 := hbB1.trans (ho.below_of hgN szq7)
    have sw7 := hgN.size
    replace ho := hoN
    clear hoN
    replace hv := hv_b1.below hbB1
    replace hbx := cell_below hbx_b1 hbB1
    refine go ?_
    refine ⟨ms.length - (i + 1), by omega, i + 1, ob', rfl, by omega, rfl, rfl, rfl, rfl, rfl, by rw [frm_take (by omega)]; exact ho, hbB1⟩
  obtain rfl : i = ms.length := by omega
  rw [List.take_length] at ho
  refine go ?_
  exact end_one Try.results95 rfl ⟨(ho.mono (by omega)).top, (hb.trans (hbB1.mono hb.size))⟩

set_option maxHeartbeats 8000000 in
set_option maxRecDepth 100000 in
theorem implExtendManiplex_any (v : Value) (ms : List (List Int)) (w : World) (hv : RL w v ms) :
    Ret Try.prog 30 #[.agg #[v]] w fun r w' => ∃ x, r = .tuple #[.agg #[x], .int .i64 (extC ms)] ∧ OM w' w.heap.size w'.heap.size 34 2 x (extL ms false) ∧ Below w.heap.size w w' := by
  have shv := hv.sv
  have hb := Below.refl w.heap.size w
  refine enter1 18 Try.func30 rfl Try.ntmps30 rfl (fun fr => ?_)
  refine go ?_
  refine s_box (wn rfl) rfl rfl (agg_cells shv) (fun w1 hbx _ hp hg => ?_)
  have hb1 := below_of_grownBy hg
  have sw1 := hb1.size
  replace hv := hv.below hb1
  replace hb := hb.trans (hb1.mono hb.size)
  clear hg hp hb1
  generalize (⟨w.heap.size, 0, none⟩ : Addr) = p at *
  have sz0 := hb.size
  have hplt := World.block_lt_of_cell? _ _ hbx
  refine go ?_
  refine s_alloc (B := w.heap.size) (wn rfl) rfl (by first | exact Nat.le_refl _ | omega) (fun w2 p4 hx4 hg2 hpp4 => ?_)
  have hb2 := below_of_grownBy hg2
  have sw2 := hb2.size
  replace hv := hv.below hb2
  replace hbx := cell_below hbx hb2
  replace hb := hb.trans (hb2.mono hb.size)
  have hlt_hx4 := hx4.lt
  have sz1 := hb.size
  have hx4lo := hx4.low
  refine go ?_
  refine s_call1 (wn rfl) rfl rfl (extensionCode_any _ _ _ hv) ?_
  rintro _ w3 ⟨rfl, hb3⟩
  have sw3 := hb3.size
  replace hv := hv.below hb3
  replace hbx := cell_below hbx hb3
  replace hx4 := hx4.below hb3
  replace hb := hb.trans (hb3.mono hb.size)
  by_cases hc : extC ms = 0
  rotate_left
  · have e : extL ms false = [] := if_neg hc
    have hbY := hb
    refine go ?_
    refine s_p (wn rfl) rfl y_bld0 ?_
    refine go ?_
    refine s_storeBox (wn rfl) rfl rfl rfl hx4 (fun w4 hxz hgz => ?_)
    have hbz := hbY.trans (hx4.below_of hgz hbY.size)
    refine go ?_
    exact end_cellT Try.results30 rfl rfl hxz.cell ⟨_, rfl, by rw [e]; exact OM.nil _ _ _ _ _, hbz⟩
  obtain ⟨hm', h5, h2⟩ := extC_0 hc
  have e := ext_4 (b := false) hm' h5 h2
  have r5 := hm'.m0.r5
  have hc' : ¬ (extC ms ≠ 0) := fun h => h hc
  refine go ?_
  refine region_hS (fun w' => w'.cell? p = some v) mixed (fun wr hbr => ?_)
  have hbxr := cell_below hbx hbr
  have hx4r := hx4.below hbr
  have hvr := hv.below hbr
  have hbR := hb.trans (hbr.mono hb.size)
  have zr := hbr.size
  refine h_p 0 hbxr ?_ (hrun := fun w hw => y_ldbox rfl hw)
  refine h_p 2 hbxr ?_ (hrun := fun w hw => y_ldbox rfl hw)
  refine h_one 1 ?_
  refine s_call1 (wn rfl) rfl rfl (doubled_any _ _ _ hvr hm' h2) ?_
  rintro db w1 ⟨hd, c1⟩
  refine w_nil ?_
  refine h_on ⟨cell_below hbxr c1, ?_⟩
  refine h_one 3 ?_
  refine s_call1 (wn rfl) rfl rfl (exchange_any _ _ _ (hvr.below c1) hm' h2) ?_
  rintro eb wx ⟨he, c2⟩
  have c12 := c1.trans (c2.mono c1.size)
  replace hd := hd.below c2
  refine w_nil ?_
  refine h_on ⟨cell_below hbxr c12, ?_⟩
  refine h_one 4 ?_
  refine s_build1V (B := wx.heap.size) (wn rfl) rfl rfl he.sv.one (Nat.le_refl _) (fun tb wt ht st hgt _ => ?_)
  have c3 := below_of_grownBy hgt
  have c13 := c12.trans (c3.mono c12.size)
  replace hd := hd.below c3
  replace he := he.below c3
  refine w_nil ?_
  refine h_on ⟨cell_below hbxr c13, ?_⟩
  refine h_one 5 ?_
  have hdl : (ms.map dbl).length = ms.length := by simp
  have zz := c13.size
  have zz1 := c1.size
  refine s_appendM (wn rfl) rfl rfl rfl hd ht.rd he (by omega) (by decide) (by omega) (by omega) (fun x wf hx so hgf => ?_)
  have cf := c13.trans (hd.below_of hgf c13.size)
  have zf := hgf.size
  refine w_nil ?_
  have bxf := cell_below hbxr cf
  refine h_on ⟨bxf, ?_⟩
  refine h_p 6 bxf ?_ (hrun := fun w _ => y_bld1 rfl so.one)
  refine h_one 7 ?_
  have hbF := hbR.trans (cf.mono hbR.size)
  have hx4f := hx4r.below cf
  refine s_storeBox (wn rfl) rfl rfl hx.sv.one hx4f (fun wz hxz hgz => ?_)
  have hbz := hbF.trans (hx4f.below_of hgz hbF.size)
  have hxN := hx.kept hgz (by omega)
  have bxz := cell_kept bxf hgz (by intro e; have := Option.some.inj e; omega)
  refine w_nil ?_
  refine h_on ⟨bxz, ?_⟩
  refine h_p 8 bxz ?_ (hrun := fun w _ => y_pop rfl)
  refine h_nil ?_
  refine go ?_
  exact end_cellT Try.results30 rfl rfl hxz.cell ⟨x, by rw [e.2], by rw [e.1]; exact (hxN.mono (by omega)).top, hbz⟩

set_option maxHeartbeats 8000000 in
set_option maxRecDepth 100000 in
theorem implExtendInside_any (v : Value) (ms : List (List Int)) (w : World) (hv : RL w v ms) :
    Ret Try.prog 32 #[.agg #[v]] w fun r w' => ∃ x, r = .tuple #[.agg #[x], .int .i64 (extC ms)] ∧ OM w' w.heap.size w'.heap.size 34 2 x (extL ms true) ∧ Below w.heap.size w w' := by
  have shv := hv.sv
  have hb := Below.refl w.heap.size w
  refine enter1 18 Try.func32 rfl Try.ntmps32 rfl (fun fr => ?_)
  refine go ?_
  refine s_box (wn rfl) rfl rfl (agg_cells shv) (fun w1 hbx _ hp hg => ?_)
  have hb1 := below_of_grownBy hg
  have sw1 := hb1.size
  replace hv := hv.below hb1
  replace hb := hb.trans (hb1.mono hb.size)
  clear hg hp hb1
  generalize (⟨w.heap.size, 0, none⟩ : Addr) = p at *
  have sz0 := hb.size
  have hplt := World.block_lt_of_cell? _ _ hbx
  refine go ?_
  refine s_alloc (B := w.heap.size) (wn rfl) rfl (by first | exact Nat.le_refl _ | omega) (fun w2 p4 hx4 hg2 hpp4 => ?_)
  have hb2 := below_of_grownBy hg2
  have sw2 := hb2.size
  replace hv := hv.below hb2
  replace hbx := cell_below hbx hb2
  replace hb := hb.trans (hb2.mono hb.size)
  have hlt_hx4 := hx4.lt
  have sz1 := hb.size
  have hx4lo := hx4.low
  refine go ?_
  refine s_call1 (wn rfl) rfl rfl (extensionCode_any _ _ _ hv) ?_
  rintro _ w3 ⟨rfl, hb3⟩
  have sw3 := hb3.size
  replace hv := hv.below hb3
  replace hbx := cell_below hbx hb3
  replace hx4 := hx4.below hb3
  replace hb := hb.trans (hb3.mono hb.size)
  by_cases hc : extC ms = 0
  rotate_left
  · have e : extL ms true = [] := if_neg hc
    have hbY := hb
    refine go ?_
    refine s_p (wn rfl) rfl y_bld0 ?_
    refine go ?_
    refine s_storeBox (wn rfl) rfl rfl rfl hx4 (fun w4 hxz hgz => ?_)
    have hbz := hbY.trans (hx4.below_of hgz hbY.size)
    refine go ?_
    exact end_cellT Try.results32 rfl rfl hxz.cell ⟨_, rfl, by rw [e]; exact OM.nil _ _ _ _ _, hbz⟩
  obtain ⟨hm', h5, h2⟩ := extC_0 hc
  have e := ext_4 (b := true) hm' h5 h2
  have r5 := hm'.m0.r5
  have hc' : ¬ (extC ms ≠ 0) := fun h => h hc
  refine go ?_
  refine region_hS (fun w' => w'.cell? p = some v) mixed (fun wr hbr => ?_)
  have hbxr := cell_below hbx hbr
  have hx4r := hx4.below hbr
  have hvr := hv.below hbr
  have hbR := hb.trans (hbr.mono hb.size)
  have zr := hbr.size
  refine h_p 0 hbxr ?_ (hrun := fun w hw => y_ldbox rfl hw)
  refine h_p 3 hbxr ?_ (hrun := fun w hw => y_ldbox rfl hw)
  refine h_one 1 ?_
  refine s_call1 (wn rfl) rfl rfl (exchange_any _ _ _ hvr hm' h2) ?_
  rintro eb w1 ⟨he, c1⟩
  have zz1 := c1.size
  refine w_nil ?_
  refine h_on ⟨cell_below hbxr c1, ?_⟩
  have helt : ∀ g, eb.ownBlock = some g → g < w1.heap.size := fun g hg => (he.lt g hg).2
  have hdl : (ms.map dbl).length = ms.length := by simp
  refine h_two 2 4 ?_ ?_
  · refine s_build1V (B := w1.heap.size) (wn rfl) rfl rfl he.sv.one (Nat.le_refl _) (fun tb wt ht st hgt _ => ?_)
    have c2 := below_of_grownBy hgt
    have c12 := c1.trans (c2.mono c1.size)
    have zz2 := c12.size
    have zz3 := c2.size
    replace he := he.below c2
    refine w_nil ?_
    refine h_on ⟨cell_below hbxr c12, ?_⟩
    refine h_one 4 ?_
    refine s_call1 (wn rfl) rfl rfl (doubled_any _ _ _ (hvr.below c12) hm' h2) ?_
    rintro db wx ⟨hd, c3⟩
    have c13 := c12.trans (c3.mono c12.size)
    replace he := he.below c3
    replace ht := ht.below c3
    refine w_nil ?_
    refine h_on ⟨cell_below hbxr c13, ?_⟩
    refine h_one 5 ?_
    obtain ⟨us, hd1, hd2⟩ := hd.rws
    have hl2 := hd2.len
    have zz := c13.size
    have zz5 := c2.size
    have zz4 := c3.size
    refine s_appendRR (B3 := wr.heap.size) (wn rfl) rfl rfl rfl ht (Rws.one' he helt) hd1.rd hd2 (.inl (by omega)) (Nat.le_refl _) (by omega) (by omega) (by decide) (by simp; omega) (by omega) (fun x wf hx so hgf => ?_)
    have cf := c13.trans (grownBy_below hgf (by omega) (fun k hk => by have := (ht.lt k hk).1; omega))
    have zf := hgf.size
    refine w_nil ?_
    have bxf := cell_below hbxr cf
    refine h_on ⟨bxf, ?_⟩
    refine h_p 6 bxf ?_ (hrun := fun w _ => y_bld1 rfl so.one)
    refine h_one 7 ?_
    have hbF := hbR.trans (cf.mono hbR.size)
    have hx4f := hx4r.below cf
    refine s_storeBox (wn rfl) rfl rfl hx.sv.one hx4f (fun wz hxz hgz => ?_)
    have hbz := hbF.trans (hx4f.below_of hgz hbF.size)
    have hxN := hx.kept hgz (by omega)
    have bxz := cell_kept bxf hgz (by intro e; have := Option.some.inj e; omega)
    refine w_nil ?_
    refine h_on ⟨bxz, ?_⟩
    refine h_p 8 bxz ?_ (hrun := fun w _ => y_pop rfl)
    refine h_nil ?_
    refine go ?_
    exact end_cellT Try.results32 rfl rfl hxz.cell ⟨x, by rw [e.2], by rw [e.1]; exact (hxN.mono (by omega)).top, hbz⟩
  refine s_call1 (wn rfl) rfl rfl (doubled_any _ _ _ (hvr.below c1) hm' h2) ?_
  rintro db wx ⟨hd, c2⟩
  have c12 := c1.trans (c2.mono c1.size)
  have zz2 := c12.size
  replace he := he.below c2
  refine w_nil ?_
  refine h_on ⟨cell_below hbxr c12, ?_⟩
  refine h_one 2 ?_
  refine s_build1V (B := wx.heap.size) (wn rfl) rfl rfl he.sv.one (Nat.le_refl _) (fun tb wt ht st hgt _ => ?_)
  have c3 := below_of_grownBy hgt
  have c13 := c12.trans (c3.mono c12.size)
  replace he := he.below c3
  replace hd := hd.below c3
  refine w_nil ?_
  refine h_on ⟨cell_below hbxr c13, ?_⟩
  refine h_one 5 ?_
  obtain ⟨us, hd1, hd2⟩ := hd.rws
  have hl2 := hd2.len
  have zz := c13.size
  have zz5 := c2.size
  have zz4 := c3.size
  refine s_appendRR (B3 := wr.heap.size) (wn rfl) rfl rfl rfl ht (Rws.one' he helt) hd1.rd hd2 (.inl (by omega)) (Nat.le_refl _) (by omega) (by omega) (by decide) (by simp; omega) (by omega) (fun x wf hx so hgf => ?_)
  have cf := c13.trans (grownBy_below hgf (by omega) (fun k hk => by have := (ht.lt k hk).1; omega))
  have zf := hgf.size
  refine w_nil ?_
  have bxf := cell_below hbxr cf
  refine h_on ⟨bxf, ?_⟩
  refine h_p 6 bxf ?_ (hrun := fun w _ => y_bld1 rfl so.one)
  refine h_one 7 ?_
  have hbF := hbR.trans (cf.mono hbR.size)
  have hx4f := hx4r.below cf
  refine s_storeBox (wn rfl) rfl rfl hx.sv.one hx4f (fun wz hxz hgz => ?_)
  have hbz := hbF.trans (hx4f.below_of hgz hbF.size)
  have hxN := hx.kept hgz (by omega)
  have bxz := cell_kept bxf hgz (by intro e; have := Option.some.inj e; omega)
  refine w_nil ?_
  refine h_on ⟨bxz, ?_⟩
  refine h_p 8 bxz ?_ (hrun := fun w _ => y_pop rfl)
  refine h_nil ?_
  refine go ?_
  exact end_cellT Try.results32 rfl rfl hxz.cell ⟨x, by rw [e.2], by rw [e.1]; exact (hxN.mono (by omega)).top, hbz⟩

end Go.Proofs.Ytmdimdbfgibflaa
