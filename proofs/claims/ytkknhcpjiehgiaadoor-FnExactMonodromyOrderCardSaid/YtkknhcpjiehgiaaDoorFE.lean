/- Texts laid together: F20 F21. -/
import Derived.Test.YtkknhcpjiehgiaaDoorFD
import Derived.Test.YtkknhcpjiehgiaaDoorPB
import Derived.Test.YtkknhcpjiehgiaaDoorWB
/- Contracts: lists compared; IsCovering, on both sides. -/
namespace Go.Proofs.YtkknhcpjiehgiaaDoor
open Go.Mem Go.RowKit
set_option linter.unusedVariables false


theorem l01Same_any (v v2 : Value) (xs ys : List Int) (w : World) (hv : IL w v xs) (hv2 : IL w v2 ys) :
    Ret Tryd.prog 41 #[v, v2] w fun r w' => r = .bool (decide (xs = ys)) ∧ Below w.heap.size w w' := by
  have sv := hv.sv
  have sv2 := hv2.sv
  have hm := sv.le
  refine enter2 26 Tryd.func41 rfl Tryd.ntmps41 rfl (fun fr => ?_)
  refine go ?_
  refine cond_dec rfl (fun h => ?_) (fun hl => ?_)
  · refine go ?_
    exact end_one Tryd.results41 rfl ⟨by rw [decide_eq_false (fun e => h (by rw [e]))], Below.refl _ _⟩
  refine go ?_
  refine w_loop (fun k fr w' => ∃ (i : Nat), k = xs.length - i ∧ i ≤ xs.length ∧ fr 0 = v ∧ fr 1 = v2 ∧ fr 5 = .int .i64 i ∧ (∀ j : Int, 0 ≤ j → j < i → gi xs j = gi ys j) ∧ Below w.heap.size w w') xs.length
    ⟨0, rfl, Nat.zero_le _, rfl, rfl, rfl, fun j h0 h1 => by omega, Below.refl _ _⟩ ?_
  rintro k fr w2 ⟨i, rfl, hi, f0, f1, fs, hys, hb⟩
  have hv := hv.below hb
  have hv2 := hv2.below hb
  refine know (t := 0) f0 ?_; refine know (t := 1) f1 ?_; refine know (t := 5) fs ?_
  refine go ?_
  refine cond_dec rfl (fun hlt => ?_) (fun hge => ?_)
  · refine go ?_
    refine region_q mixed (by kernel_rfl) ?_
    refine qo ?_
    refine q_nil ?_
    intro w3 hb3
    have hb := hb.trans (hb3.mono hb.size)
    refine go ?_
    refine cond_dec rfl (fun hne => ?_) (fun hne => ?_)
    · refine go ?_
      exact end_one Tryd.results41 rfl ⟨by rw [decide_eq_false (fun e => hne (by rw [e]))], hb⟩
    · refine go ?_
      refine ⟨xs.length - (i + 1), by omega, i + 1, rfl, by omega, rfl, rfl, rfl, fun j h0 hj => ?_, hb⟩
      by_cases hji : j = i
      · subst hji; exact Decidable.not_not.1 hne
      · exact hys j h0 (by omega)
  · obtain rfl : i = xs.length := by omega
    refine go ?_
    have : xs = ys := list_ext_gi (by omega) fun j h0 hj => hys j h0 (by omega)
    exact end_one Tryd.results41 rfl ⟨by rw [decide_eq_true this], hb⟩

end Go.Proofs.YtkknhcpjiehgiaaDoor

/- Contracts: words, and what they do; DoesNothing, on both sides. -/
namespace Go.Proofs.YtkknhcpjiehgiaaDoor
open Go.Mem Go.RowKit
set_option linter.unusedVariables false
set_option maxRecDepth 100000 in
theorem identity_any (w : World) (m : Nat) (hm : m ≤ 1000000) :
    Ret Tryd.prog 33 #[.int .i64 m] w fun r w' => OI w' w.heap.size 2 r (idl m) ∧ Below w.heap.size w w' := by
  have hb := Below.refl w.heap.size w
  refine enter1 18 Tryd.func33 rfl Tryd.ntmps33 rfl (fun fr => ?_)
  refine go ?_
  refine s_makeI (B := w.heap.size) (wn rfl) rfl rfl rfl (by omega) (by omega) (Nat.le_refl _) (fun ob w1 ho so hg _ => ?_)
  have hb1 := below_of_grownBy hg
  have e : ((m : Int)).toNat = m := by omega
  rw [e] at ho so
  refine go ?_
  refine w_loop (fun k fr w' => ∃ (i : Nat) (xs : List Int), k = m - i ∧ i ≤ m ∧ fr 3 = ob ∧ fr 8 = .int .i64 m ∧ fr 9 = .int .i64 i ∧ xs.length = m ∧ (∀ j : Int, 0 ≤ j → j < i → gi xs j = j) ∧ OI w' w.heap.size 2 ob xs ∧ Below w.heap.size w w') m
    ⟨0, _, rfl, Nat.zero_le _, rfl, rfl, rfl, by simp, fun j h0 h1 => by omega, ho, hb1⟩ ?_
  rintro k fr w2 ⟨i, xs, rfl, hi, f3, f8, f9, hl, hall, ho2, hb⟩
  clear ho so
  have so := ho2.sv
  refine know (t := 3) f3 ?_; refine know (t := 8) f8 ?_; refine know (t := 9) f9 ?_
  refine go ?_
  refine cond_dec rfl (fun hlt => ?_) (fun hge => ?_)
  · refine go ?_
    refine s_storeI (wn rfl) rfl rfl ho2 (by omega) (by omega) (fun w3 ho3 hg3 => ?_)
    have hb3 := hb.trans (ho2.below_of hg3 hb.size)
    refine go ?_
    refine ⟨m - (i + 1), by omega, i + 1, _, rfl, by omega, rfl, rfl, rfl, by simp [hl], fun j h0 hj => ?_, ho3, hb3⟩
    rw [gi_seti _ _ _ _ (by omega) (by omega) h0]
    split
    · rename_i e; exact e.symm
    · exact hall j h0 (by omega)
  · obtain rfl : i = m := by omega
    have : xs = idl i := list_ext_gi (by simp [hl]) fun j h0 hj => by rw [hall j h0 (by omega), gi_idl h0 (by omega)]
    rw [this] at ho2
    refine go ?_
    exact end_one Tryd.results33 rfl ⟨ho2, hb⟩

set_option maxRecDepth 100000 in
theorem then_any (v : Value) (v2 : Value) (ps : List Int) (qs : List Int) (w : World) (hv : IL w v ps) (hv2 : IL w v2 qs) (hp : ∀ x ∈ ps, 0 ≤ x ∧ x < qs.length) (hl : ps.length ≤ 1000000) :
    Ret Tryd.prog 35 #[v, v2] w fun r w' => OI w' w.heap.size 2 r (aft ps qs) ∧ Below w.heap.size w w' := by
  have shv := hv.sv
  have shv2 := hv2.sv
  have hb := Below.refl w.heap.size w
  refine enter2 27 Tryd.func35 rfl Tryd.ntmps35 rfl (fun fr => ?_)
  refine go ?_
  refine s_makeI (B := w.heap.size) (wn rfl) rfl rfl rfl (by omega) (by omega) (Nat.le_refl _) (fun ob w1 ho so hg _ => ?_)
  have hb1 := below_of_grownBy hg
  have e : ((ps.length : Int)).toNat = ps.length := by omega
  rw [e] at ho so
  refine go ?_
  refine w_loop (fun k fr w' => ∃ (i : Nat) (xs : List Int), k = ps.length - i ∧ i ≤ ps.length ∧ fr 1 = v2 ∧ fr 5 = ob ∧ fr 11 = v ∧ fr 12 = .int .i64 ps.length ∧ fr 13 = .int .i64 i ∧ xs.length = ps.length ∧ (∀ j : Int, 0 ≤ j → j < i → gi xs j = gi qs (gi ps j)) ∧ OI w' w.heap.size 2 ob xs ∧ Below w.heap.size w w') ps.length
    ⟨0, _, rfl, Nat.zero_le _, rfl, rfl, rfl, rfl, rfl, by simp, fun j h0 h1 => by omega, ho, hb1⟩ ?_
  rintro k fr w2 ⟨i, xs, rfl, hi, f1, f5, f11, f12, f13, hlx, hall, ho, hb⟩
  have so := ho.sv
  have hv := hv.below hb
  have hv2 := hv2.below hb
  refine know (t := 1) f1 ?_; refine know (t := 5) f5 ?_; refine know (t := 11) f11 ?_; refine know (t := 12) f12 ?_; refine know (t := 13) f13 ?_
  refine go ?_
  refine cond_dec rfl (fun hlt => ?_) (fun hge => ?_)
  · have hx := hp _ (gi_in (xs := ps) (j := i) (by omega))
    refine go ?_
    refine s_storeI (wn rfl) rfl rfl ho (by omega) (by omega) (fun w3 ho3 hg3 => ?_)
    have hb3 := hb.trans (ho.below_of hg3 hb.size)
    refine go ?_
    refine ⟨ps.length - (i + 1), by omega, i + 1, _, rfl, by omega, rfl, rfl, rfl, rfl, rfl, by simp [hlx], fun j h0 hj => ?_, ho3, hb3⟩
    rw [gi_seti _ _ _ _ (by omega) (by omega) h0]
    split
    · rename_i e; rw [e]
    · exact hall j h0 (by omega)
  · obtain rfl : i = ps.length := by omega
    have : xs = aft ps qs := list_ext_gi (by simp [hlx]) fun j h0 hj => by rw [hall j h0 (by omega), gi_aft h0 (by omega)]
    rw [this] at ho
    refine go ?_
    exact end_one Tryd.results35 rfl ⟨ho, hb⟩

end Go.Proofs.YtkknhcpjiehgiaaDoor
