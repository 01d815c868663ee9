/- Contracts: PetrieLengths, WordPeriod, on both sides. -/
import Derived.Test.YtlodnhflfijomaaF45
namespace Go.Mem
open Go.RowKit
/-- u lies elsewhere than v -/
def Ap (u v : Value) : Prop := u.ownBlock = none ∨ u.ownBlock ≠ v.ownBlock
theorem Ap.symm {u v : Value} (h : Ap u v) : Ap v u := by
  unfold Ap at *
  cases hv : v.ownBlock with
  | none => exact .inl rfl
  | some g =>
    refine .inr fun e => ?_
    rcases h with h | h
    · rw [h] at e; exact absurd e (by simp)
    · exact h (by rw [hv]; exact e.symm)
theorem Ap.grow {u v v' : Value} {n : Nat} (h : Ap u v) (hu : ∀ g, u.ownBlock = some g → g < n) (hv : v'.ownBlock = v.ownBlock ∨ v'.ownBlock = some n) : Ap u v' := by
  rcases hv with hv | hv
  · unfold Ap; rw [hv]; exact h
  · unfold Ap
    cases hu' : u.ownBlock with
    | none => exact .inl rfl
    | some g =>
      refine .inr fun e => ?_
      rw [hv] at e
      have := hu g hu'
      have := Option.some.inj e
      omega
theorem Ap.new {u v : Value} {n : Nat} (hu : ∀ g, u.ownBlock = some g → g < n) (hv : v.ownBlock = some n) : Ap u v := by
  unfold Ap
  cases hu' : u.ownBlock with
  | none => exact .inl rfl
  | some g =>
    refine .inr fun e => ?_
    rw [hv] at e
    have := hu g hu'
    have := Option.some.inj e
    omega
theorem OM.kept' {w w' : World} {B E : Nat} {T U : TypeId} {v u : Value} {xss : List (List Int)} (h : OM w B E T U v xss) (hg : w.grownBy w' u.ownBlock) (hu : ∀ g, u.ownBlock = some g → g < B) : OM w' B E T U v xss := by
  cases hq : u.ownBlock with
  | none => rw [hq] at hg; exact h.below (below_of_grownBy hg)
  | some g => rw [hq] at hg; exact h.kept hg (hu g hq)
theorem take_gr' {xss : List (List Int)} {i : Nat} (h : i < xss.length) : xss.take (i + 1) = xss.take i ++ [gr xss i] := by
  rw [List.take_succ_eq_append_getElem h]; simp [gr, List.getD, h]
theorem per_take (n : Nat) (p : List Int) (i : Nat) : (List.range (i + 1)).map (fun f : Nat => (per n p f : Int)) = (List.range i).map (fun f : Nat => (per n p f : Int)) ++ [(per n p i : Int)] := by simp [List.range_succ]
end Go.Mem
namespace Go.Proofs.Ytlodnhflfijomaa
open Go.Mem Go.RowKit
set_option linter.unusedVariables false
set_option linter.unusedSimpArgs false

set_option maxHeartbeats 8000000 in
set_option maxRecDepth 100000 in
theorem specPetrieLengths_any (v : Value) (ms : List (List Int)) (w : World) (hv : RL w v ms) :
    Ret Try.prog 28 #[.agg #[v]] w fun r w' => ∃ x, r = .tuple #[x, .int .i64 (manC ms)] ∧ OI w' w.heap.size 2 x (plL ms) ∧ Below w.heap.size w w' := by
  have shv := hv.sv
  have hb := Below.refl w.heap.size w
  refine enter1 50 Try.func28 rfl Try.ntmps28 rfl (fun fr => ?_)
  refine go ?_
  refine s_box (wn rfl) rfl rfl (agg_cells shv) (fun w1 hbx _ hp hg => ?_)
  have hb1 := below_of_grownBy hg
  have sw1 := hb1.size
  replace hv := hv.below hb1
  replace hb := hb.trans (hb1.mono hb.size)
  clear hg hp hb1
  generalize (⟨w.heap.size, 0, none⟩ : Addr) = p at *
  refine go ?_
  refine s_call1 (wn rfl) rfl rfl (l02Is_any _ _ _ hv) ?_
  rintro _ w2 ⟨rfl, hb2⟩
  have sw2 := hb2.size
  replace hv := hv.below hb2
  replace hbx := cell_below hbx hb2
  replace hb := hb.trans (hb2.mono hb.size)
  refine splitb (decide (IsMan ms)) (fun hm => ?_) (fun hm => ?_)
  rotate_left
  · have hm := of_decide_eq_false hm
    have e := And.intro (plL_no hm) (manC_no hm)
    refine go ?_
    exact end_two Try.results28 rfl rfl ⟨.slice none 0 0, by rw [e.2], by rw [e.1]; exact OI.nil _ _ _, hb⟩
  have hm' := of_decide_eq_true hm
  have r5 := hm'.m0.r5
  have r1 := hm'.m0.r1
  have f4 := hm'.m0.f400
  have hwi := idl_word hm'
  have hpm := does_pm hm' hwi
  have e := And.intro (plL_yes hm') (manC_yes hm')
  have hgd : ∀ x : Int, 0 ≤ x → x < nf ms → run ms (idl ms.length) x = gi (does ms (idl ms.length) (nf ms)) x := fun x h0 hx => (gi_does h0 hx).symm
  generalize does ms (idl ms.length) (nf ms) = P at *
  have sbs1 := hb.size
  have hv_b1 := hv
  have hbx_b1 := hbx
  have hbB1 := Below.refl w2.heap.size w2
  refine go ?_
  refine s_build0 (B := w2.heap.size) (wn rfl) rfl (Nat.le_refl _) (fun wd w3 hwd so hg3 _ => ?_)
  have hb3 := below_of_grownBy hg3
  have sw3 := hb3.size
  replace hv := hv.below hb3
  replace hbx := cell_below hbx hb3
  replace hbB1 := hbB1.trans (hb3.mono hbB1.size)
  have hwlt := fun g hg => (hwd.lt g hg).2
  refine go ?_
  refine s_build0 (B := w2.heap.size) (wn rfl) rfl hbB1.size (fun ob w4 ho so hg4 hobn => ?_)
  have hap := (Ap.new hwlt hobn).symm
  have hb4 := below_of_grownBy hg4
  have sw4 := hb4.size
  replace hv := hv.below hb4
  replace hbx := cell_below hbx hb4
  replace hwd := hwd.below hb4
  replace hbB1 := hbB1.trans (hb4.mono hbB1.size)
  refine go ?_
  refine w_loop (fun kk fr w' => ∃ (i : Nat) (wd : Value), kk = ms.length - i ∧ i ≤ ms.length ∧ fr 1 = .pointer (some p) ∧ fr 4 = wd ∧ fr 5 = ob ∧ fr 6 = .int .i64 i ∧ (OI w' w2.heap.size 2 wd (idl i)) ∧ (OI w' w2.heap.size 2 ob []) ∧ (Ap ob wd) ∧ Below w2.heap.size w2 w') (ms.length)
    ⟨0, wd, rfl, Nat.zero_le _, rfl, rfl, rfl, rfl, hwd, ho, hap, hbB1⟩ ?_
  rintro kk fr w5 ⟨i, wd, rfl, hi, f1, f4, f5, f6, hwd, ho, hap, hbB1⟩
  have sw5 := hbB1.size
  have hv := hv_b1.below hbB1
  have hbx := cell_below hbx_b1 hbB1
  have shwd := hwd.sv
  have sho := ho.sv
  refine know (t := 1) f1 ?_; refine know (t := 4) f4 ?_; refine know (t := 5) f5 ?_; refine know (t := 6) f6 ?_
  refine go ?_
  refine cond_dec rfl (fun hlt => ?_) (fun hge => ?_)
  · refine go ?_
    have szq6 := hbB1.size
    refine s_build1 (B := w2.heap.size) (wn rfl) rfl rfl szq6 (fun tb w6 ht st hg6 _ => ?_)
    have hb6 := below_of_grownBy hg6
    have sw6 := hb6.size
    replace hv := hv.below hb6
    replace hbx := cell_below hbx hb6
    replace hwd := hwd.below hb6
    replace ho := ho.below hb6
    replace hbB1 := hbB1.trans (hb6.mono hbB1.size)
    have szq7 := hbB1.size
    refine s_appendI (wn rfl) rfl rfl rfl hwd ht.il (by simp; omega) szq7 (fun wd' w7 hoN so hgN hgrow => ?_)
    replace hbB1 := hbB1.trans (hwd.below_of hgN szq7)
    have hltk := fun g hg => (ho.lt g hg).2
    replace ho := ho.kept hgN hap
    replace hap := hap.grow hltk hgrow
    clear hltk
    have sw7 := hgN.size
    replace hwd := hoN
    clear hoN hgrow
    replace hv := hv_b1.below hbB1
    replace hbx := cell_below hbx_b1 hbB1
    refine go ?_
    refine ⟨ms.length - (i + 1), by omega, i + 1, wd', rfl, by omega, rfl, rfl, rfl, rfl, by simpa [idl, List.range_succ] using hwd, ho, hap, hbB1⟩
  obtain rfl : i = ms.length := by omega
  replace hap := hap.symm
  refine go ?_
  refine w_loop (fun kk fr w' => ∃ (i : Nat) (ob : Value), kk = nf ms - i ∧ i ≤ nf ms ∧ fr 1 = .pointer (some p) ∧ fr 4 = wd ∧ fr 5 = ob ∧ fr 7 = .int .i64 i ∧ (OI w' w2.heap.size 2 wd (idl ms.length)) ∧ (OI w' w2.heap.size 2 ob ((List.range i).map fun f : Nat => (per (nf ms) P f : Int))) ∧ (Ap wd ob) ∧ Below w2.heap.size w2 w') (nf ms)
    ⟨0, ob, rfl, Nat.zero_le _, rfl, rfl, rfl, rfl, hwd, ho, hap, hbB1⟩ ?_
  rintro kk fr w8 ⟨i, ob, rfl, hi, f1, f4, f5, f7, hwd, ho, hap, hbB1⟩
  have sw8 := hbB1.size
  have hv := hv_b1.below hbB1
  have hbx := cell_below hbx_b1 hbB1
  have shwd := hwd.sv
  have sho := ho.sv
  refine know (t := 1) f1 ?_; refine know (t := 4) f4 ?_; refine know (t := 5) f5 ?_; refine know (t := 7) f7 ?_
  refine go ?_
  refine s_call1 (wn rfl) rfl rfl (l02Flags_any _ _ _ hv r1) ?_
  rintro _ w9 ⟨rfl, hb9⟩
  have sw9 := hb9.size
  replace hv := hv.below hb9
  replace hbx := cell_below hbx hb9
  replace hwd := hwd.below hb9
  replace ho := ho.below hb9
  replace hbB1 := hbB1.trans (hb9.mono hbB1.size)
  refine go ?_
  refine cond_dec rfl (fun hlt => ?_) (fun hge => ?_)
  · have hi' : 0 ≤ (i : Int) ∧ (i : Int) < nf ms := by omega
    have hpi := hpm.per hi'
    refine go ?_
    refine s_call3 (wn rfl) rfl rfl rfl rfl (l02Run_any _ _ _ (i : Int) _ _ hv hwd.il hm' hwi hi') ?_
    rintro _ w10 ⟨rfl, hb10⟩
    have sw10 := hb10.size
    replace hv := hv.below hb10
    replace hbx := cell_below hbx hb10
    replace hwd := hwd.below hb10
    replace ho := ho.below hb10
    replace hbB1 := hbB1.trans (hb10.mono hbB1.size)
    rw [hgd i (by omega) (by omega)]
    have sbs2 := hbB1.size
    have hv_b2 := hv
    have hbx_b2 := hbx
    have hwd_b2 := hwd
    have ho_b2 := ho
    have hbB2 := Below.refl w10.heap.size w10
    refine go ?_
    refine w_loop (fun kk fr w' => ∃ (k : Nat), kk = per (nf ms) P i - 1 - k ∧ k ≤ per (nf ms) P i - 1 ∧ fr 1 = .pointer (some p) ∧ fr 4 = wd ∧ fr 5 = ob ∧ fr 7 = .int .i64 i ∧ fr 8 = .int .i64 (1 + (k : Int)) ∧ fr 9 = .int .i64 (itr P i (k + 1)) ∧ Below w10.heap.size w10 w') (per (nf ms) P i - 1)
      ⟨0, rfl, Nat.zero_le _, rfl, rfl, rfl, rfl, rfl, rfl, hbB2⟩ ?_
    rintro kk fr w11 ⟨k, rfl, hk, f1, f4, f5, f7, f8, f9, hbB2⟩
    have sw11 := hbB2.size
    have hv := hv_b2.below hbB2
    have hbx := cell_below hbx_b2 hbB2
    have hwd := hwd_b2.below hbB2
    have ho := ho_b2.below hbB2
    have hxx := hpm.itr hi' (k + 1)
    refine know (t := 1) f1 ?_; refine know (t := 4) f4 ?_; refine know (t := 5) f5 ?_; refine know (t := 7) f7 ?_; refine know (t := 8) f8 ?_; refine know (t := 9) f9 ?_
    refine go ?_
    by_cases hkp : k + 1 < per (nf ms) P i
    · have hne := hpi.2.2.2 (k + 1) (by omega) hkp
      refine go ?_
      refine go ?_
      refine s_call3 (wn rfl) rfl rfl rfl rfl (l02Run_any _ _ _ (itr P i (k + 1)) _ _ hv hwd.il hm' hwi hxx) ?_
      rintro _ w12 ⟨rfl, hb12⟩
      have sw12 := hb12.size
      replace hv := hv.below hb12
      replace hbx := cell_below hbx hb12
      replace hwd := hwd.below hb12
      replace ho := ho.below hb12
      replace hbB2 := hbB2.trans (hb12.mono hbB2.size)
      rw [hgd _ hxx.1 hxx.2]
      refine go ?_
      refine ⟨per (nf ms) P i - 1 - (k + 1), by omega, k + 1, rfl, by omega, rfl, rfl, rfl, rfl, by show Value.int _ _ = _; congr 1 <;> omega, rfl, hbB2⟩
    obtain rfl : k = per (nf ms) P i - 1 := by omega
    have hpe : per (nf ms) P i - 1 + 1 = per (nf ms) P i := by omega
    rw [hpe, hpi.2.2.1]
    have hnn : ¬ ((i : Int) ≠ i) := fun h => h rfl
    have hval : (1 + ((per (nf ms) P i - 1 : Nat) : Int)) = (per (nf ms) P i : Int) := by omega
    rw [hval]
    replace hbB1 := hbB1.trans (hbB2.mono hbB1.size)
    refine go ?_
    have hapk := hap
    have szq13 := hbB1.size
    refine s_build1 (B := w2.heap.size) (wn rfl) rfl rfl szq13 (fun tb w13 ht st hg13 _ => ?_)
    have hb13 := below_of_grownBy hg13
    have sw13 := hb13.size
    replace hv := hv.below hb13
    replace hbx := cell_below hbx hb13
    replace hwd := hwd.below hb13
    replace ho := ho.below hb13
    replace hbB1 := hbB1.trans (hb13.mono hbB1.size)
    have szq14 := hbB1.size
    refine s_appendI (wn rfl) rfl rfl rfl ho ht.il (by simp; omega) szq14 (fun ob' w14 hoN so hgN hgrow => ?_)
    replace hbB1 := hbB1.trans (ho.below_of hgN szq14)
    have hltk := fun g hg => (hwd.lt g hg).2
    replace hwd := hwd.kept hgN hap
    replace hap := hap.grow hltk hgrow
    clear hltk
    have sw14 := hgN.size
    replace ho := hoN
    clear hoN hgrow
    replace hv := hv_b1.below hbB1
    replace hbx := cell_below hbx_b1 hbB1
    refine go ?_
    refine ⟨nf ms - (i + 1), by omega, i + 1, ob', rfl, by omega, rfl, rfl, rfl, rfl, hwd, by rw [per_take]; exact ho, hap, hbB1⟩
  obtain rfl : i = nf ms := by omega
  refine go ?_
  exact end_two Try.results28 rfl rfl ⟨ob, by rw [e.2], by rw [e.1]; exact ho.mono (by omega), (hb.trans (hbB1.mono hb.size))⟩

set_option maxHeartbeats 8000000 in
set_option maxRecDepth 100000 in
theorem implPetrieLengths_any (v : Value) (ms : List (List Int)) (w : World) (hv : RL w v ms) :
    Ret Try.prog 27 #[.agg #[v]] w fun r w' => ∃ x, r = .tuple #[x, .int .i64 (manC ms)] ∧ OI w' w.heap.size 2 x (plL ms) ∧ Below w.heap.size w w' := by
  have shv := hv.sv
  have hb := Below.refl w.heap.size w
  refine enter1 37 Try.func27 rfl Try.ntmps27 rfl (fun fr => ?_)
  refine go ?_
  refine s_box (wn rfl) rfl rfl (agg_cells shv) (fun w1 hbx _ hp hg => ?_)
  have hb1 := below_of_grownBy hg
  have sw1 := hb1.size
  replace hv := hv.below hb1
  replace hb := hb.trans (hb1.mono hb.size)
  clear hg hp hb1
  generalize (⟨w.heap.size, 0, none⟩ : Addr) = p at *
  refine go ?_
  refine s_call1 (wn rfl) rfl rfl (isManiplex_any _ _ _ hv) ?_
  rintro _ w2 ⟨rfl, hb2⟩
  have sw2 := hb2.size
  replace hv := hv.below hb2
  replace hbx := cell_below hbx hb2
  replace hb := hb.trans (hb2.mono hb.size)
  refine splitb (decide (IsMan ms)) (fun hm => ?_) (fun hm => ?_)
  rotate_left
  · have hm := of_decide_eq_false hm
    have e := And.intro (plL_no hm) (manC_no hm)
    refine go ?_
    exact end_two Try.results27 rfl rfl ⟨.slice none 0 0, by rw [e.2], by rw [e.1]; exact OI.nil _ _ _, hb⟩
  have hm' := of_decide_eq_true hm
  have r5 := hm'.m0.r5
  have r1 := hm'.m0.r1
  have f4 := hm'.m0.f400
  have hwi := idl_word hm'
  have hpm := does_pm hm' hwi
  have e := And.intro (plL_yes hm') (manC_yes hm')
  have hgd : ∀ x : Int, 0 ≤ x → x < nf ms → run ms (idl ms.length) x = gi (does ms (idl ms.length) (nf ms)) x := fun x h0 hx => (gi_does h0 hx).symm
  have sbs1 := hb.size
  have hv_b1 := hv
  have hbx_b1 := hbx
  have hbB1 := Below.refl w2.heap.size w2
  refine go ?_
  refine s_call1 (wn rfl) rfl rfl (flags_any _ _ _ _ hbx hv r1) ?_
  rintro _ _ ⟨rfl, rfl⟩
  refine go ?_
  have szq3 := hbB1.size
  refine s_makeI (B := w2.heap.size) (wn rfl) rfl rfl rfl (by omega) (by omega) szq3 (fun lb w3 ho soho hg3 _ => ?_)
  have hb3 := below_of_grownBy hg3
  have sw3 := hb3.size
  replace hv := hv.below hb3
  replace hbx := cell_below hbx hb3
  replace hbB1 := hbB1.trans (hb3.mono hbB1.size)
  have el : ((nf ms : Int)).toNat = nf ms := by omega
  rw [el] at ho
  refine go ?_
  refine s_call1 (wn rfl) rfl rfl (rank_any _ _ _ _ hbx hv.sv) ?_
  rintro _ _ ⟨rfl, rfl⟩
  refine go ?_
  refine s_call1 (wn rfl) rfl rfl (identity_any _ ms.length (by omega)) ?_
  rintro wd w4 ⟨hwd, hb4⟩
  have sw4 := hb4.size
  replace hv := hv.below hb4
  replace hbx := cell_below hbx hb4
  replace ho := ho.below hb4
  replace hbB1 := hbB1.trans (hb4.mono hbB1.size)
  refine go ?_
  refine s_call2 (wn rfl) rfl rfl rfl (does_any _ _ _ _ _ _ hv hbx hwd.il hm' hwi) ?_
  rintro pb w5 ⟨hp, hb5⟩
  have sw5 := hb5.size
  replace hv := hv.below hb5
  replace hbx := cell_below hbx hb5
  replace ho := ho.below hb5
  replace hwd := hwd.below hb5
  replace hbB1 := hbB1.trans (hb5.mono hbB1.size)
  generalize does ms (idl ms.length) (nf ms) = P at *
  have hcl : (cyc (nf ms) P).length ≤ nf ms := cycTo_le
  refine go ?_
  have hlb0 := fun g hg => (ho.lt g hg).2
  refine s_call1 (wn rfl) rfl rfl (cyclesOf_any _ _ (nf ms) _ hp.il hpm) ?_
  rintro cb w6 ⟨hcy, hb6⟩
  have sw6 := hb6.size
  replace hv := hv.below hb6
  replace hbx := cell_below hbx hb6
  replace ho := ho.below hb6
  replace hwd := hwd.below hb6
  replace hp := hp.below hb6
  replace hbB1 := hbB1.trans (hb6.mono hbB1.size)
  have hcr := hcy.rl
  have scr := hcr.sv
  have hlbl : ∀ g, lb.ownBlock = some g → g < w6.heap.size := fun g hg => (ho.lt g hg).2
  have hcy2 := hcy
  obtain ⟨cB, hcB, hlbB⟩ : ∃ cB : Nat, OM w6 cB w6.heap.size 40 2 cb (cyc (nf ms) P) ∧ ∀ g, lb.ownBlock = some g → g < cB := ⟨_, hcy, hlb0⟩
  refine go ?_
  refine w_loop (fun kk fr w' => ∃ (i : Nat) (L : List Int), kk = (cyc (nf ms) P).length - i ∧ i ≤ (cyc (nf ms) P).length ∧ fr 4 = lb ∧ fr 17 = cb ∧ fr 18 = .int .i64 (cyc (nf ms) P).length ∧ fr 19 = .int .i64 i ∧ (OI w' w2.heap.size 2 lb L) ∧ (OM w' cB w6.heap.size 40 2 cb (cyc (nf ms) P)) ∧ (L.length = nf ms) ∧ (∀ x : Int, 0 ≤ x → x < nf ms → ((∃ c ∈ (cyc (nf ms) P).take i, x ∈ c)) → gi L x = (per (nf ms) P x : Int)) ∧ Below w2.heap.size w2 w') ((cyc (nf ms) P).length)
    ⟨0, _, rfl, Nat.zero_le _, rfl, rfl, rfl, rfl, ho, hcB, by simp, fun x h0 hx h => by simp at h, hbB1⟩ ?_
  rintro kk fr w7 ⟨i, L, rfl, hi, f4, f17, f18, f19, ho, hcB, hLl, hcov, hbB1⟩
  have sw7 := hbB1.size
  have hv := hv_b1.below hbB1
  have hbx := cell_below hbx_b1 hbB1
  have sho := ho.sv
  have shcB := hcB.sv
  refine know (t := 4) f4 ?_; refine know (t := 17) f17 ?_; refine know (t := 18) f18 ?_; refine know (t := 19) f19 ?_
  refine go ?_
  refine cond_dec rfl (fun hlt => ?_) (fun hge => ?_)
  · have hce := hpm.cyc_per (c := gr (cyc (nf ms) P) i) (gr_in (by omega))
    obtain ⟨u0, huo, hcu⟩ := hcB.row (j := (i : Int)) (by omega) (by omega)
    have hu0 := huo.il
    have hul0 := fun g hg => (huo.lt g hg).1
    have su := hu0.sv
    refine go ?_
    refine go ?_
    refine w_loop (fun kk fr w' => ∃ (j : Nat) (L : List Int), kk = (gr (cyc (nf ms) P) i).length - j ∧ j ≤ (gr (cyc (nf ms) P) i).length ∧ fr 4 = lb ∧ fr 6 = u0 ∧ fr 17 = cb ∧ fr 18 = .int .i64 (cyc (nf ms) P).length ∧ fr 19 = .int .i64 i ∧ fr 23 = u0 ∧ fr 24 = .int .i64 (gr (cyc (nf ms) P) i).length ∧ fr 25 = .int .i64 j ∧ (OI w' w2.heap.size 2 lb L) ∧ (OM w' cB w6.heap.size 40 2 cb (cyc (nf ms) P)) ∧ (IL w' u0 (gr (cyc (nf ms) P) i)) ∧ (L.length = nf ms) ∧ (∀ x : Int, 0 ≤ x → x < nf ms → ((∃ c ∈ (cyc (nf ms) P).take i, x ∈ c) ∨ ∃ t : Nat, t < j ∧ x = gi (gr (cyc (nf ms) P) i) t) → gi L x = (per (nf ms) P x : Int)) ∧ (∀ g, u0.ownBlock = some g → cB ≤ g) ∧ Below w2.heap.size w2 w') ((gr (cyc (nf ms) P) i).length)
      ⟨0, L, rfl, Nat.zero_le _, rfl, rfl, rfl, rfl, rfl, rfl, rfl, rfl, ho, hcB, hu0, hLl, fun x h0 hx h => hcov x h0 hx (by rcases h with h | ⟨t, ht, _⟩; exact h; omega), hul0, hbB1⟩ ?_
    rintro kk fr w8 ⟨j, L, rfl, hj, f4, f6, f17, f18, f19, f23, f24, f25, ho, hcB, hu0, hLl, hcov, hul, hbB1⟩
    have sw8 := hbB1.size
    have hv := hv_b1.below hbB1
    have hbx := cell_below hbx_b1 hbB1
    have sho := ho.sv
    have shcB := hcB.sv
    have shu0 := hu0.sv
    refine know (t := 4) f4 ?_; refine know (t := 6) f6 ?_; refine know (t := 17) f17 ?_; refine know (t := 18) f18 ?_; refine know (t := 19) f19 ?_; refine know (t := 23) f23 ?_; refine know (t := 24) f24 ?_; refine know (t := 25) f25 ?_
    refine go ?_
    refine cond_dec rfl (fun hlt2 => ?_) (fun hge2 => ?_)
    · have hxj := hce.1 _ (gi_in (xs := gr (cyc (nf ms) P) i) (j := j) (by omega))
      refine go ?_
      refine go ?_
      refine s_call1 (wn rfl) rfl rfl (size_any _ _ _ su) ?_
      rintro _ _ ⟨rfl, rfl⟩
      refine go ?_
      refine s_storeI (wn rfl) rfl rfl ho (by omega) (by omega) (fun w9 hoN hgN => ?_)
      replace hcB := hcB.kept' hgN hlbB
      replace hu0 := hu0.kept hgN (by
        cases hq : u0.ownBlock with
        | none => exact .inl rfl
        | some g => refine .inr fun e => ?_; have := hul g hq; have := hlbB g e.symm; omega)
      replace hbB1 := hbB1.trans (ho.below_of hgN hbB1.size)
      have sw9 := hgN.size
      replace ho := hoN
      clear hoN
      replace hv := hv_b1.below hbB1
      replace hbx := cell_below hbx_b1 hbB1
      refine go ?_
      refine ⟨(gr (cyc (nf ms) P) i).length - (j + 1), by omega, j + 1, _, rfl, by omega, rfl, rfl, rfl, rfl, rfl, rfl, rfl, rfl, ho, hcB, hu0, by simp [seti, hLl], fun x h0 hx h => by
            rw [gi_seti _ _ _ _ (by omega) (by omega) h0]
            split
            · rename_i ex; rw [ex]; exact congrArg _ hxj.2.2
            · rename_i ex
              refine hcov x h0 hx ?_
              rcases h with h | ⟨t, ht, e2⟩
              · exact .inl h
              · refine .inr ⟨t, ?_, e2⟩
                by_cases htj : t = j
                · subst htj; exact absurd e2 ex
                · omega, hul, hbB1⟩
    obtain rfl : j = (gr (cyc (nf ms) P) i).length := by omega
    refine go ?_
    refine ⟨(cyc (nf ms) P).length - (i + 1), by omega, i + 1, L, rfl, by omega, rfl, rfl, rfl, rfl, ho, hcB, hLl, fun x h0 hx h => hcov x h0 hx (by
          obtain ⟨c, hc, hxc⟩ := h
          rw [take_gr' (by omega)] at hc
          rcases List.mem_append.1 hc with hc | hc
          · exact .inl ⟨c, hc, hxc⟩
          · simp at hc; subst hc
            obtain ⟨t, ht, e2⟩ := in_gi hxc
            exact .inr ⟨t, ht, e2.symm⟩), hbB1⟩
  obtain rfl : i = (cyc (nf ms) P).length := by omega
  have hLe : L = (List.range (nf ms)).map fun f : Nat => (per (nf ms) P f : Int) := list_ext_gi (by simp [hLl]) fun x h0 hx => by
    rw [gi_range_map h0 (by omega), show ((x.toNat : Nat) : Int) = x by omega]
    obtain ⟨c, hc, hxc⟩ := hpm.cyc_all (nf ms) (Nat.le_refl _) x.toNat (by omega)
    rw [show ((x.toNat : Nat) : Int) = x by omega] at hxc
    exact hcov x h0 (by omega) ⟨c, by rw [List.take_length]; exact hc, hxc⟩
  rw [hLe] at ho
  refine go ?_
  exact end_two Try.results27 rfl rfl ⟨lb, by rw [e.2], by rw [e.1]; exact ho.mono (by omega), (hb.trans (hbB1.mono hb.size))⟩

set_option maxHeartbeats 8000000 in
set_option maxRecDepth 100000 in
theorem implWordPeriod_any (v : Value) (v2 : Value) (ms : List (List Int)) (wd : List Int) (w : World) (hv : RL w v ms) (hv2 : IL w v2 wd) :
    Ret Try.prog 34 #[.agg #[v], v2] w fun r w' => r = .tuple #[.int .i64 (wpN ms wd), .int .i64 (wpC ms wd)] ∧ Below w.heap.size w w' := by
  have shv := hv.sv
  have shv2 := hv2.sv
  have hb := Below.refl w.heap.size w
  refine enter2 19 Try.func34 rfl Try.ntmps34 rfl (fun fr => ?_)
  refine go ?_
  refine s_box (wn rfl) rfl rfl (agg_cells shv) (fun w1 hbx _ hp hg => ?_)
  have hb1 := below_of_grownBy hg
  have sw1 := hb1.size
  replace hv := hv.below hb1
  replace hv2 := hv2.below hb1
  replace hb := hb.trans (hb1.mono hb.size)
  clear hg hp hb1
  generalize (⟨w.heap.size, 0, none⟩ : Addr) = p at *
  refine go ?_
  refine s_call1 (wn rfl) rfl rfl (isManiplex_any _ _ _ hv) ?_
  rintro _ w2 ⟨rfl, hb2⟩
  have sw2 := hb2.size
  replace hv := hv.below hb2
  replace hv2 := hv2.below hb2
  replace hbx := cell_below hbx hb2
  replace hb := hb.trans (hb2.mono hb.size)
  refine splitb (decide (IsMan ms)) (fun hm => ?_) (fun hm => ?_)
  rotate_left
  · have hm' := of_decide_eq_false hm
    have ec := (word_1 (wd := wd) hm').2
    have e := wp_1 (wd := wd) (by rw [ec]; decide)
    refine go ?_
    exact end_two Try.results34 rfl rfl ⟨by rw [e.1, e.2, ec], hb⟩
  have hm' := of_decide_eq_true hm
  have f4 := hm'.m0.f400
  refine go ?_
  refine s_call2 (wn rfl) rfl rfl rfl (isWord_any _ _ _ _ _ _ hv hbx hv2) ?_
  rintro _ w3 ⟨rfl, hb3⟩
  have sw3 := hb3.size
  replace hv := hv.below hb3
  replace hv2 := hv2.below hb3
  replace hbx := cell_below hbx hb3
  replace hb := hb.trans (hb3.mono hb.size)
  refine splitb (decide (IsWord ms wd)) (fun hw => ?_) (fun hw => ?_)
  rotate_left
  · have hw' := of_decide_eq_false hw
    have ec := (word_2 hm' hw').2
    have e := wp_1 (by rw [ec]; decide)
    refine go ?_
    exact end_two Try.results34 rfl rfl ⟨by rw [e.1, e.2, ec], hb⟩
  have hw' := of_decide_eq_true hw
  have hc := (word_3 hm' hw').2
  have hpm := does_pm hm' hw'
  refine go ?_
  refine s_call2 (wn rfl) rfl rfl rfl (does_any _ _ _ _ _ _ hv hbx hv2 hm' hw') ?_
  rintro y w4 ⟨hy, hb4⟩
  have sw4 := hb4.size
  replace hv := hv.below hb4
  replace hv2 := hv2.below hb4
  replace hbx := cell_below hbx hb4
  replace hb := hb.trans (hb4.mono hb.size)
  refine go ?_
  refine s_call1 (wn rfl) rfl rfl (PermutationOrder_any _ _ (nf ms) _ hy.il hpm f4) ?_
  rintro _ w5 ⟨rfl, hb5⟩
  have sw5 := hb5.size
  replace hv := hv.below hb5
  replace hv2 := hv2.below hb5
  replace hbx := cell_below hbx hb5
  replace hy := hy.below hb5
  replace hb := hb.trans (hb5.mono hb.size)
  by_cases ho : ord (nf ms) (does ms wd (nf ms)) ≤ 1000000000000000
  rotate_left
  · have e := wp_2 hc ho
    rw [if_neg ho, if_neg ho]
    refine go ?_
    exact end_two Try.results34 rfl rfl ⟨by rw [e.1, e.2]; rfl, hb⟩
  have e := wp_3 hc ho
  rw [if_pos ho, if_pos ho]
  refine go ?_
  exact end_two Try.results34 rfl rfl ⟨by rw [e.1, e.2], hb⟩

end Go.Proofs.Ytlodnhflfijomaa
