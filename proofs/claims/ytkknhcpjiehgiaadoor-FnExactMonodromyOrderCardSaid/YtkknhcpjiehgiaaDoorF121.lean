/- Contracts: MonodromyOrder, the reference's side: the elements of a group. -/
import Derived.Test.YtkknhcpjiehgiaaDoorF120
namespace Go.Proofs.YtkknhcpjiehgiaaDoor
open Go.Mem Go.RowKit
set_option linter.unusedVariables false
set_option linter.unusedSimpArgs false

set_option maxHeartbeats 8000000 in
set_option maxRecDepth 100000 in
theorem l01Group_any (v : Value) (A : List (List Int)) (n : Nat) (w : World) (hv : RL w v A) (hA : ∀ m ∈ A, IsEl n m) (hn : n ≤ 1000000) (hl : A.length ≤ 1000) :
    Ret Tryd.prog 11 #[.int .i64 n, v] w fun r w' => ∃ x, r = .tuple #[x, .bool (decide (mnOk n A))] ∧ (mnOk n A → SV x (mnAll n A).length) ∧ Below w.heap.size w w' := by
  have shv := hv.sv
  have hb := Below.refl w.heap.size w
  refine enter2 57 Tryd.func11 rfl Tryd.ntmps11 rfl (fun fr => ?_)
  refine go ?_
  refine s_call1 (wn rfl) rfl rfl (l01Unit_any _ n _ rfl hn) ?_
  rintro u0 w1 ⟨hu0, hb1⟩
  have sz1 := hb1.size
  refine go ?_
  refine s_build1V (B := w.heap.size) (wn rfl) rfl rfl hu0.sv.one sz1 (fun fv0 w2 hf0 sf0 hg2 hfb => ?_)
  have hb2 := below_of_grownBy hg2
  have hb12 := hb1.trans (hb2.mono sz1)
  have sz2 := hb12.size
  have hF0 := LR.one hf0 ⟨_, hu0.below hb2⟩
  refine go ?_
  refine s_call1 (wn rfl) rfl rfl (l01Unit_any _ n _ rfl hn) ?_
  rintro u1 w3 ⟨hu1, hb3⟩
  have hb13 := hb12.trans (hb3.mono sz2)
  have sz3 := hb13.size
  have hF1 := hF0.below hb3
  refine go ?_
  refine s_build1V (B := w.heap.size) (wn rfl) rfl rfl hu1.sv.one sz3 (fun sv0 w4 hs0 ss0 hg4 hsb => ?_)
  have hb4 := below_of_grownBy hg4
  have hb14 := hb13.trans (hb4.mono sz3)
  have hF2 := hF1.below hb4
  have hS2 := LR.one hs0 ⟨_, hu1.below hb4⟩
  have hap0 : sv0.ownBlock = none ∨ sv0.ownBlock ≠ fv0.ownBlock := by
    right; rw [hfb, hsb]; intro e; injection e with e; have := hb2.size; have := hb3.size; have := (hF0.lt _ hfb).2; omega
  refine go ?_
  refine w_loop (fun kk fr w' => ∃ (i : Nat) (fv sv : Value) (S : List (List Int)), kk = 1001 - i ∧ i ≤ (mnTo n A i).length ∧ (mnTo n A i).length ≤ 1000 ∧ fr 1 = v ∧ fr 6 = fv ∧ fr 7 = sv ∧ fr 8 = .int .i64 i ∧ Srt S (mnTo n A i) ∧ LR w' w.heap.size 40 2 fv (mnTo n A i) ∧ LR w' w.heap.size 40 2 sv S ∧ (sv.ownBlock = none ∨ sv.ownBlock ≠ fv.ownBlock) ∧ Below w.heap.size w w') 1001
    ⟨0, fv0, sv0, [idl n], rfl, Nat.zero_le _, by simp [mnTo], rfl, rfl, rfl, rfl, Srt.one _, hF2, hS2, hap0, hb14⟩ ?_
  rintro kk fr w5 ⟨i, fv, sv, S, rfl, hi, hiK, f1, f6, f7, f8, hSr, hF, hS, hap, hb5⟩
  have shF := hF.sv
  have hv5 := hv.below hb5
  refine know (t := 1) f1 ?_; refine know (t := 6) f6 ?_; refine know (t := 7) f7 ?_; refine know (t := 8) f8 ?_
  refine go ?_
  refine cond_dec rfl (fun hlt => ?_) (fun hge => ?_)
  rotate_left
  · obtain ⟨hok, he⟩ := mn_end (n := n) (A := A) (i := i) (by omega) hiK
    have hel := mnTo_el hA i
    have hlen := hSr.len
    have hrS : ∀ xs ∈ S, xs.length ≤ 1000000 := fun xs hx => by rw [(hel _ ((hSr.mem _).1 hx)).1]; exact hn
    refine go ?_
    refine s_call1 (wn rfl) rfl rfl (l01Own2_any _ _ _ hS.rl (by omega) hrS) ?_
    rintro x w6 ⟨hx, hb6⟩
    have sx := hx.sv
    rw [hlen] at sx
    refine go ?_
    exact end_two Tryd.results11 rfl rfl ⟨x, by rw [decide_eq_true hok], fun _ => by rw [he]; exact sx, hb5.trans (hb6.mono hb5.size)⟩
  have hilt : i < (mnTo n A i).length := by omega
  refine go ?_
  refine w_loop (fun kk fr w' => ∃ (k : Nat) (fv sv : Value) (S : List (List Int)), kk = A.length - k ∧ k ≤ A.length ∧ (mnRow A (gr (mnTo n A i) i) (mnTo n A i) k).length ≤ 1000 ∧ fr 1 = v ∧ fr 6 = fv ∧ fr 7 = sv ∧ fr 8 = .int .i64 i ∧ fr 9 = .int .i64 k ∧ Srt S (mnRow A (gr (mnTo n A i) i) (mnTo n A i) k) ∧ LR w' w.heap.size 40 2 fv (mnRow A (gr (mnTo n A i) i) (mnTo n A i) k) ∧ LR w' w.heap.size 40 2 sv S ∧ (sv.ownBlock = none ∨ sv.ownBlock ≠ fv.ownBlock) ∧ Below w.heap.size w w') A.length
    ⟨0, fv, sv, S, rfl, Nat.zero_le _, hiK, rfl, rfl, rfl, rfl, rfl, hSr, hF, hS, hap, hb5⟩ ?_
  clear hF hS hap hSr shF hb5 hv5 f1 f6 f7 f8
  rintro kk fr w6 ⟨k, fv, sv, S, rfl, hk, hkK, f1, f6, f7, f8, f9, hSr, hF, hS, hap, hb6⟩
  have sz6 := hb6.size
  have shF := hF.sv
  have hv6 := hv.below hb6
  have hle := mnRow_le A (gr (mnTo n A i) i) (mnTo n A i) k
  refine know (t := 1) f1 ?_; refine know (t := 6) f6 ?_; refine know (t := 7) f7 ?_; refine know (t := 8) f8 ?_; refine know (t := 9) f9 ?_
  refine go ?_
  refine cond_dec rfl (fun hklt => ?_) (fun hkge => ?_)
  rotate_left
  · obtain rfl : k = A.length := by omega
    have hs := mnTo_succ hilt
    refine go ?_
    exact ⟨1001 - (i + 1), by omega, i + 1, fv, sv, S, rfl, by rw [hs]; omega, by rw [hs]; exact hkK, rfl, rfl, rfl, rfl, by rw [hs]; exact hSr, by rw [hs]; exact hF, hS, hap, hb6⟩
  have hkA : k < A.length := by omega
  have hpre := mnRow_pre A (gr (mnTo n A i) i) hilt k
  obtain ⟨x, ⟨Bx, hx⟩, hcx⟩ := hF.row (j := (i : Int)) (by omega) (by omega)
  rw [hpre] at hx
  have sx := hx.sv
  obtain ⟨y, hy, hcy⟩ := hv6.row (j := (k : Int)) (by omega) (by omega)
  have sy := hy.sv
  have hE := mnTo_el hA i
  have hxe := hE _ (gr_in hilt)
  have hye := hA _ (gr_in hkA)
  have hze := isEl_aft hxe hye
  refine go ?_
  refine region_h mixed (fun w7 hc7 => ?_)
  refine h_p 0 hc7 ?_
  refine h_p 1 hc7 ?_
  refine h_p 2 hc7 ?_
  refine h_p 3 hc7 ?_
  refine h_p 4 hc7 ?_
  refine h_p 5 hc7 ?_
  refine h_p 6 hc7 ?_
  refine h_p 7 hc7 ?_
  refine h_one 8 ?_
  refine s_call2 (wn rfl) rfl rfl rfl (l01Then_any _ _ _ _ _ (hx.il.below hc7) (hy.below hc7) (fun z hz => by rw [hye.1]; exact hxe.2 z hz) (by rw [hxe.1]; exact hn)) ?_
  rintro z w8 ⟨hz, hb8⟩
  have hc8 := hc7.trans (hb8.mono hc7.size)
  refine w_nil ?_
  refine h_on ⟨hc8, ?_⟩
  refine h_p 9 hc8 ?_
  refine h_nil ?_
  have hF8 := hF.below hc8
  have hS8 := hS.below hc8
  have hb68 := hb6.trans (hc8.mono sz6)
  have sz8 := hb68.size
  have sz78 := hc8.size
  refine go ?_
  refine s_call2 (wn rfl) rfl rfl rfl (l01Put_any _ _ S _ w.heap.size _ _ hS8 hz sz8 hSr.up (by have := hSr.len; omega)) ?_
  rintro _ w9 ⟨sv9, rfl, hS9, hg9, hbk9⟩
  have hb89 := hS8.below_of hg9 sz8
  have hb9 := hb68.trans hb89
  have hF9 := hF8.other hS8 (by decide) hg9 (apart_sym hap)
  have hz9 := hz.other hS8 (by decide) hg9
  have hap9 : sv9.ownBlock = none ∨ sv9.ownBlock ≠ fv.ownBlock := by
    rcases hbk9 with e | ⟨b, e, hb'⟩
    · rw [e]; exact hap
    · right; rw [e]; intro e2; have := (hF8.lt b e2.symm).2; omega
  have hmem := hSr.mem (aft (gr (mnTo n A i) i) (gr A k))
  have sz9 := hb9.size
  refine splitb (decide (aft (gr (mnTo n A i) i) (gr A k) ∉ S)) (fun hq => ?_) (fun hq => ?_)
  rotate_left
  · have hq' := Decidable.not_not.1 (of_decide_eq_false hq)
    rw [if_pos hq'] at hS9
    have e : mnRow A (gr (mnTo n A i) i) (mnTo n A i) (k + 1) = mnRow A (gr (mnTo n A i) i) (mnTo n A i) k := mnAdd_in (hmem.1 hq')
    have shF9 := hF9.sv
    have hng : ¬ (((mnRow A (gr (mnTo n A i) i) (mnTo n A i) k).length : Int) > 1000) := by omega
    refine go ?_
    exact ⟨A.length - (k + 1), by omega, k + 1, fv, sv9, S, rfl, by omega, by rw [e]; exact hkK, rfl, rfl, rfl, rfl, rfl, by rw [e]; exact hSr, by rw [e]; exact hF9, hS9, hap9, hb9⟩
  have hq' := of_decide_eq_true hq
  rw [if_neg hq'] at hS9
  have e : mnRow A (gr (mnTo n A i) i) (mnTo n A i) (k + 1) = mnRow A (gr (mnTo n A i) i) (mnTo n A i) k ++ [aft (gr (mnTo n A i) i) (gr A k)] := mnAdd_new (fun h => hq' (hmem.2 h))
  refine go ?_
  refine s_build1V (B := w.heap.size) (wn rfl) rfl rfl hz9.sv.one sz9 (fun tb w10 ht st hg10 _ => ?_)
  have hb10 := below_of_grownBy hg10
  have hb910 := hb9.trans (hb10.mono sz9)
  have sz10 := hb910.size
  have hF10 := hF9.below hb10
  have hS10 := hS9.below hb10
  refine s_appendL (B := w.heap.size) (wn rfl) rfl rfl rfl hF10 ht.rd (hz9.below hb10) (by decide) (by omega) sz10 (fun fv11 w11 hF11 sF11 hg11 hbk11 => ?_)
  have hS11 := hS10.other hF10 (by decide) hg11 hap9
  have hb11 := hb910.trans (hF10.below_of hg11 sz10)
  have hap11 : sv9.ownBlock = none ∨ sv9.ownBlock ≠ fv11.ownBlock := by
    rcases hbk11 with e | e
    · rw [e]; exact hap9
    · cases e3 : sv9.ownBlock with
      | none => exact .inl rfl
      | some b => right; rw [e]; intro e2; injection e2 with e2; have := (hS10.lt b e3).2; omega
  rw [← e] at hF11
  have hl1 : (mnRow A (gr (mnTo n A i) i) (mnTo n A i) (k + 1)).length = (mnRow A (gr (mnTo n A i) i) (mnTo n A i) k).length + 1 := by rw [e]; simp
  refine go ?_
  refine cond_dec rfl (fun hgt => ?_) (fun hng => ?_)
  · have hno := mn_much_row (n := n) (A := A) (i := i) (k := k + 1) (by omega) hilt (by omega) (by omega)
    refine go ?_
    exact end_two Tryd.results11 rfl rfl ⟨_, by rw [decide_eq_false hno], fun h => absurd h hno, hb11⟩
  refine go ?_
  exact ⟨A.length - (k + 1), by omega, k + 1, fv11, sv9, _, rfl, by omega, by omega, rfl, rfl, rfl, rfl, rfl, by rw [e]; exact hSr.add hq', hF11, hS11, hap11, hb11⟩


end Go.Proofs.YtkknhcpjiehgiaaDoor
