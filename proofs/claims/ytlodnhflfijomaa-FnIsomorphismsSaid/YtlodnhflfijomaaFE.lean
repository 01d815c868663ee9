/- Texts laid together: F20 F21. -/
import Derived.Test.YtlodnhflfijomaaFD
import Derived.Test.YtlodnhflfijomaaPB
import Derived.Test.YtlodnhflfijomaaWB
/- Contracts: lists compared; IsCovering, on both sides. -/
namespace Go.Proofs.Ytlodnhflfijomaa
open Go.Mem Go.RowKit
set_option linter.unusedVariables false


theorem l01Same_any (v v2 : Value) (xs ys : List Int) (w : World) (hv : IL w v xs) (hv2 : IL w v2 ys) :
    Ret Try.prog 202 #[v, v2] w fun r w' => r = .bool (decide (xs = ys)) ∧ Below w.heap.size w w' := by
  have sv := hv.sv
  have sv2 := hv2.sv
  have hm := sv.le
  refine enter2 26 Try.func202 rfl Try.ntmps202 rfl (fun fr => ?_)
  refine go ?_
  refine cond_dec rfl (fun h => ?_) (fun hl => ?_)
  · refine go ?_
    exact end_one Try.results202 rfl ⟨by rw [decide_eq_false (fun e => h (by rw [e]))], Below.refl _ _⟩
  refine go ?_
  refine w_loop (fun k fr w' => ∃ (i : Nat), k = xs.length - i ∧ i ≤ xs.length ∧ fr 0 = v ∧ fr 1 = v2 ∧ fr 5 = .int .i64 i ∧ (∀ j : Int, 0 ≤ j → j < i → gi xs j = gi ys j) ∧ Below w.heap.size w w') xs.length
    ⟨0, rfl, Nat.zero_le _, rfl, rfl, rfl, fun j h0 h1 => by omega, Below.refl _ _⟩ ?_
  rintro k fr w2 ⟨i, rfl, hi, f0, f1, fs, hys, hb⟩
  have hv := hv.below hb
  have hv2 := hv2.below hb
  refine know (t := 0) f0 ?_; refine know (t := 1) f1 ?_; refine know (t := 5) fs ?_
  refine go ?_
  refine cond_dec rfl (fun hlt => ?_) (fun hge => ?_)
  · refine go ?_
    refine region_q mixed (by kernel_rfl) ?_
    refine qo ?_
    refine q_nil ?_
    intro w3 hb3
    have hb := hb.trans (hb3.mono hb.size)
    refine go ?_
    refine cond_dec rfl (fun hne => ?_) (fun hne => ?_)
    · refine go ?_
      exact end_one Try.results202 rfl ⟨by rw [decide_eq_false (fun e => hne (by rw [e]))], hb⟩
    · refine go ?_
      refine ⟨xs.length - (i + 1), by omega, i + 1, rfl, by omega, rfl, rfl, rfl, fun j h0 hj => ?_, hb⟩
      by_cases hji : j = i
      · subst hji; exact Decidable.not_not.1 hne
      · exact hys j h0 (by omega)
  · obtain rfl : i = xs.length := by omega
    refine go ?_
    have : xs = ys := list_ext_gi (by omega) fun j h0 hj => hys j h0 (by omega)
    exact end_one Try.results202 rfl ⟨by rw [decide_eq_true this], hb⟩

theorem Equal_any (v v2 : Value) (xs ys : List Int) (w : World) (hv : IL w v xs) (hv2 : IL w v2 ys) :
    Ret Try.prog 199 #[v, v2] w fun r w' => r = .bool (decide (xs = ys)) ∧ Below w.heap.size w w' := by
  have sv := hv.sv
  have sv2 := hv2.sv
  have hm := sv.le
  refine enter2 26 Try.func199 rfl Try.ntmps199 rfl (fun fr => ?_)
  refine go ?_
  refine cond_dec rfl (fun h => ?_) (fun hl => ?_)
  · refine go ?_
    exact end_one Try.results199 rfl ⟨by rw [decide_eq_false (fun e => h (by rw [e]))], Below.refl _ _⟩
  refine go ?_
  refine w_loop (fun k fr w' => ∃ (i : Nat), k = xs.length - i ∧ i ≤ xs.length ∧ fr 0 = v ∧ fr 1 = v2 ∧ fr 12 = .int .i64 xs.length ∧ fr 13 = .int .i64 i ∧ (∀ j : Int, 0 ≤ j → j < i → gi xs j = gi ys j) ∧ Below w.heap.size w w') xs.length
    ⟨0, rfl, Nat.zero_le _, rfl, rfl, rfl, rfl, fun j h0 h1 => by omega, Below.refl _ _⟩ ?_
  rintro k fr w2 ⟨i, rfl, hi, f0, f1, f12, fs, hys, hb⟩
  have hv := hv.below hb
  have hv2 := hv2.below hb
  refine know (t := 0) f0 ?_; refine know (t := 1) f1 ?_; refine know (t := 12) f12 ?_; refine know (t := 13) fs ?_
  refine go ?_
  refine cond_dec rfl (fun hlt => ?_) (fun hge => ?_)
  · refine go ?_
    refine region_q mixed (by kernel_rfl) ?_
    refine qo ?_
    refine q_nil ?_
    intro w3 hb3
    have hb := hb.trans (hb3.mono hb.size)
    refine go ?_
    refine cond_dec rfl (fun hne => ?_) (fun hne => ?_)
    · refine go ?_
      exact end_one Try.results199 rfl ⟨by rw [decide_eq_false (fun e => hne (by rw [e]))], hb⟩
    · refine go ?_
      refine ⟨xs.length - (i + 1), by omega, i + 1, rfl, by omega, rfl, rfl, rfl, rfl, fun j h0 hj => ?_, hb⟩
      by_cases hji : j = i
      · subst hji; exact Decidable.not_not.1 hne
      · exact hys j h0 (by omega)
  · obtain rfl : i = xs.length := by omega
    refine go ?_
    have : xs = ys := list_ext_gi (by omega) fun j h0 hj => hys j h0 (by omega)
    exact end_one Try.results199 rfl ⟨by rw [decide_eq_true this], hb⟩

end Go.Proofs.Ytlodnhflfijomaa

/- Contracts: words, and what they do; DoesNothing, on both sides. -/
namespace Go.Proofs.Ytlodnhflfijomaa
open Go.Mem Go.RowKit
set_option linter.unusedVariables false
set_option maxRecDepth 100000 in
theorem l02Run_any (v : Value) (v2 : Value) (ms : List (List Int)) (fl : Int) (wd : List Int) (w : World) (hv : RL w v ms) (hv2 : IL w v2 wd) (hm : IsMan ms) (hw : IsWord ms wd) (hf : 0 ≤ fl ∧ fl < nf ms) :
    Ret Try.prog 94 #[.agg #[v], .int .i64 fl, v2] w fun r w' => r = .int .i64 (run ms wd fl) ∧ Below w.heap.size w w' := by
  have shv := hv.sv
  have shv2 := hv2.sv
  have hb := Below.refl w.heap.size w
  refine enter3 26 Try.func94 rfl Try.ntmps94 rfl (fun fr => ?_)
  have h1 := hm.m0.r1
  have h4 := hm.m0.f400
  have hw1 := hw.1
  have hw2 := hw.2
  refine go ?_
  refine s_box (wn rfl) rfl rfl (agg_cells shv) (fun w1 hbx _ hp hg => ?_)
  have hb1 := below_of_grownBy hg
  replace hv := hv.below hb1
  replace hv2 := hv2.below hb1
  replace hb := hb.trans (hb1.mono hb.size)
  clear hg hp hb1
  generalize (⟨w.heap.size, 0, none⟩ : Addr) = p at *
  refine go ?_
  refine w_loop (fun k fr w' => ∃ (i : Nat), k = wd.length - i ∧ i ≤ wd.length ∧ fr 1 = .int .i64 (run ms (wd.take i) fl) ∧ fr 2 = v2 ∧ fr 3 = .pointer (some p) ∧ fr 7 = .int .i64 i ∧ Below w1.heap.size w1 w') (wd.length)
    ⟨0, rfl, Nat.zero_le _, rfl, rfl, rfl, rfl, Below.refl _ _⟩ ?_
  rintro k fr w2 ⟨i, rfl, hi, f1, f2, f3, f7, hbL1⟩
  have hv := hv.below hbL1
  have hv2 := hv2.below hbL1
  have hbx := cell_below hbx hbL1
  refine know (t := 1) f1 ?_; refine know (t := 2) f2 ?_; refine know (t := 3) f3 ?_; refine know (t := 7) f7 ?_
  refine go ?_
  refine cond_dec rfl (fun hlt => ?_) (fun hge => ?_)
  · have hx := hw2 _ (gi_in (xs := wd) (j := i) (by omega))
    have hr := run_rng hm.syst (wd.take i) (fun x h => hw2 x (List.mem_of_mem_take h)) fl hf
    have hrow := hm.syst.row hx.1 hx.2
    have hrl := hrow.1
    obtain ⟨u, hu, hcu⟩ := hv.row hx.1 hx.2
    have su := hu.sv
    refine go ?_
    refine region_q mixed (by kernel_rfl) ?_; refine qo ?_; refine q_nil ?_
    intro w3 hbq
    replace hv := hv.below hbq
    replace hv2 := hv2.below hbq
    replace hbx := cell_below hbx hbq
    replace hbL1 := hbL1.trans (hbq.mono hbL1.size)
    refine go ?_
    refine ⟨wd.length - (i + 1), by omega, i + 1, rfl, by omega, by rw [run_take_succ (by omega)]; rfl, rfl, rfl, rfl, hbL1⟩
  obtain rfl : i = wd.length := by omega
  rw [List.take_length]
  refine go ?_
  exact end_one Try.results94 rfl ⟨rfl, (hb.trans (hbL1.mono hb.size))⟩

theorem areWithin1_any (x lo hi : Int) (p q : Addr) (w : World) (hp : w.cell? p = some (.int .i64 lo)) (hq : w.cell? q = some (.int .i64 hi)) :
    Ret Try.prog 192 #[.int .i64 x, .pointer (some p), .pointer (some q)] w fun r w' => r = .bool (!inB x lo hi) ∧ w = w' := by
  refine enter3 10 Try.func192 rfl Try.ntmps192 rfl (fun fr => ?_)
  refine go ?_
  refine s_call3 (wn rfl) rfl rfl rfl rfl (within_any _ _ _ _) ?_
  rintro _ _ ⟨rfl, rfl⟩
  refine go ?_
  exact end_one Try.results192 rfl ⟨rfl, rfl⟩

theorem IndexFunc_any (fn : FuncId) [FunTy Try.prog fn] (caps : Array Value) (p : Int → Bool) (v : Value) (xs : List Int) (w : World) (hv : IL w v xs)
    (hf : ∀ x, Ret Try.prog fn (#[.int .i64 x] ++ caps) w fun r w' => r = .bool (p x) ∧ w = w') :
    Ret Try.prog 210 #[v, .func (.func fn) #[] caps] w fun r w' => r = .int .i64 (idxF p xs) ∧ w = w' := by
  have sv := hv.sv
  have scap := sv.le
  refine enter2 19 Try.func210 rfl Try.ntmps210 rfl (fun fr => ?_)
  refine go ?_
  refine w_loop (fun k fr w' => ∃ (i : Nat), k = xs.length - i ∧ i ≤ xs.length ∧ fr 0 = v ∧ fr 1 = .func (.func fn) #[] caps ∧ fr 7 = .int .i64 xs.length ∧ fr 8 = .int .i64 i ∧ (∀ j : Nat, j < i → p (gi xs j) = false) ∧ w = w') xs.length
    ⟨0, rfl, Nat.zero_le _, rfl, rfl, rfl, rfl, fun j hj => by omega, rfl⟩ ?_
  rintro k fr _ ⟨i, rfl, hi, f0, f1, f7, f8, hall, rfl⟩
  refine know (t := 0) f0 ?_; refine know (t := 1) f1 ?_; refine know (t := 7) f7 ?_; refine know (t := 8) f8 ?_
  refine go ?_
  refine cond_dec rfl (fun hlt => ?_) (fun hge => ?_)
  · refine go ?_
    refine s_callV1 (wn rfl) rfl rfl rfl (hf (gi xs i)) ?_
    rintro _ _ ⟨rfl, rfl⟩
    refine splitb (p (gi xs i)) (fun hp => ?_) (fun hp => ?_)
    · refine go ?_
      exact end_one Try.results210 rfl ⟨by rw [idxF_some (by omega) hp hall], rfl⟩
    · refine go ?_
      exact ⟨xs.length - (i + 1), by omega, i + 1, rfl, by omega, rfl, rfl, rfl, rfl, fun j hj => by by_cases hji : j = i; (subst hji; exact hp); exact hall j (by omega), rfl⟩
  · obtain rfl : i = xs.length := by omega
    refine go ?_
    exact end_one Try.results210 rfl ⟨by rw [idxF_none hall], rfl⟩

theorem ContainsFunc_any (fn : FuncId) [FunTy Try.prog fn] (caps : Array Value) (p : Int → Bool) (v : Value) (xs : List Int) (w : World) (hv : IL w v xs)
    (hf : ∀ x, Ret Try.prog fn (#[.int .i64 x] ++ caps) w fun r w' => r = .bool (p x) ∧ w = w') :
    Ret Try.prog 191 #[v, .func (.func fn) #[] caps] w fun r w' => r = .bool (xs.any p) ∧ w = w' := by
  refine enter2 9 Try.func191 rfl Try.ntmps191 rfl (fun fr => ?_)
  refine go ?_
  refine s_call2 (wn rfl) rfl rfl rfl (IndexFunc_any fn caps p v xs w hv hf) ?_
  rintro _ _ ⟨rfl, rfl⟩
  refine go ?_
  exact end_one Try.results191 rfl ⟨by rw [idxF_any], rfl⟩

theorem areWithin_any (v : Value) (xs : List Int) (m : Nat) (w : World) (hv : IL w v xs) :
    Ret Try.prog 158 #[v, .int .i64 0, .int .i64 ((m : Int) - 1)] w fun r w' => r = .bool (decide (∀ x ∈ xs, 0 ≤ x ∧ x < m)) ∧ Below w.heap.size w w' := by
  refine enter3 11 Try.func158 rfl Try.ntmps158 rfl (fun fr => ?_)
  refine go ?_
  refine s_box (wn rfl) rfl rfl rfl (fun w1 hbx _ hp1 hg => ?_)
  have hb := below_of_grownBy hg
  have hv := hv.below hb
  generalize (⟨w.heap.size, 0, none⟩ : Addr) = p at *
  refine s_box (wn rfl) rfl rfl rfl (fun w2 hbx2 _ hp2 hg2 => ?_)
  have hb2 := below_of_grownBy hg2
  have hbx := cell_below hbx hb2
  have hv := hv.below hb2
  have hb := hb.trans (hb2.mono hb.size)
  generalize (⟨w1.heap.size, 0, none⟩ : Addr) = p2 at *
  refine go ?_
  refine s_p (wn rfl) rfl (y_fn2 rfl rfl) ?_
  refine s_call2 (wn rfl) rfl rfl rfl (ContainsFunc_any 192 _ (fun x => !inB x 0 ((m : Int) - 1)) _ _ _ hv (fun x => areWithin1_any x _ _ _ _ _ hbx hbx2)) ?_
  rintro _ _ ⟨rfl, rfl⟩
  refine go ?_
  exact end_one Try.results158 rfl ⟨by rw [any_within], hb⟩

set_option maxRecDepth 100000 in
theorem isWord_any (v : Value) (pv : Addr) (v2 : Value) (ms : List (List Int)) (wd : List Int) (w : World) (hv : RL w v ms) (hxv : w.cell? pv = some v) (hv2 : IL w v2 wd) :
    Ret Try.prog 96 #[.pointer (some pv), v2] w fun r w' => r = .bool (decide (IsWord ms wd)) ∧ Below w.heap.size w w' := by
  have shv := hv.sv
  have shv2 := hv2.sv
  have hb := Below.refl w.heap.size w
  refine enter2 15 Try.func96 rfl Try.ntmps96 rfl (fun fr => ?_)
  have scap := shv2.le
  have mcap := shv.le
  refine go ?_
  by_cases hl : (wd.length : Int) ≤ 64
  rotate_left
  · refine go ?_
    exact end_one Try.results96 rfl ⟨by rw [decide_eq_false (fun e : IsWord ms wd => hl (by have := e.1; omega))], hb⟩
  refine go ?_
  refine s_call1 (wy rfl rfl rfl rfl rfl known) rfl rfl (rank_any _ _ _ _ hxv shv) ?_
  rintro _ _ ⟨rfl, rfl⟩
  refine go ?_
  refine s_call3 (wy rfl rfl rfl rfl rfl known) rfl rfl rfl rfl (areWithin_any _ _ ms.length _ hv2) ?_
  rintro _ w1 ⟨rfl, hb1⟩
  replace hv := hv.below hb1
  replace hxv := cell_below hxv hb1
  replace hv2 := hv2.below hb1
  replace hb := hb.trans (hb1.mono hb.size)
  have hw : (∀ x ∈ wd, 0 ≤ x ∧ x < ms.length) ↔ IsWord ms wd := ⟨fun h => ⟨by omega, h⟩, fun h => h.2⟩
  refine go ?_
  exact end_one Try.results96 rfl ⟨by rw [decide_eq_decide.2 hw], hb⟩

set_option maxRecDepth 100000 in
theorem identity_any (w : World) (m : Nat) (hm : m ≤ 1000000) :
    Ret Try.prog 90 #[.int .i64 m] w fun r w' => OI w' w.heap.size 2 r (idl m) ∧ Below w.heap.size w w' := by
  have hb := Below.refl w.heap.size w
  refine enter1 18 Try.func90 rfl Try.ntmps90 rfl (fun fr => ?_)
  refine go ?_
  refine s_makeI (B := w.heap.size) (wn rfl) rfl rfl rfl (by omega) (by omega) (Nat.le_refl _) (fun ob w1 ho so hg _ => ?_)
  have hb1 := below_of_grownBy hg
  have e : ((m : Int)).toNat = m := by omega
  rw [e] at ho so
  refine go ?_
  refine w_loop (fun k fr w' => ∃ (i : Nat) (xs : List Int), k = m - i ∧ i ≤ m ∧ fr 3 = ob ∧ fr 8 = .int .i64 m ∧ fr 9 = .int .i64 i ∧ xs.length = m ∧ (∀ j : Int, 0 ≤ j → j < i → gi xs j = j) ∧ OI w' w.heap.size 2 ob xs ∧ Below w.heap.size w w') m
    ⟨0, _, rfl, Nat.zero_le _, rfl, rfl, rfl, by simp, fun j h0 h1 => by omega, ho, hb1⟩ ?_
  rintro k fr w2 ⟨i, xs, rfl, hi, f3, f8, f9, hl, hall, ho2, hb⟩
  clear ho so
  have so := ho2.sv
  refine know (t := 3) f3 ?_; refine know (t := 8) f8 ?_; refine know (t := 9) f9 ?_
  refine go ?_
  refine cond_dec rfl (fun hlt => ?_) (fun hge => ?_)
  · refine go ?_
    refine s_storeI (wn rfl) rfl rfl ho2 (by omega) (by omega) (fun w3 ho3 hg3 => ?_)
    have hb3 := hb.trans (ho2.below_of hg3 hb.size)
    refine go ?_
    refine ⟨m - (i + 1), by omega, i + 1, _, rfl, by omega, rfl, rfl, rfl, by simp [hl], fun j h0 hj => ?_, ho3, hb3⟩
    rw [gi_seti _ _ _ _ (by omega) (by omega) h0]
    split
    · rename_i e; exact e.symm
    · exact hall j h0 (by omega)
  · obtain rfl : i = m := by omega
    have : xs = idl i := list_ext_gi (by simp [hl]) fun j h0 hj => by rw [hall j h0 (by omega), gi_idl h0 (by omega)]
    rw [this] at ho2
    refine go ?_
    exact end_one Try.results90 rfl ⟨ho2, hb⟩

set_option maxRecDepth 100000 in
theorem then_any (v : Value) (v2 : Value) (ps : List Int) (qs : List Int) (w : World) (hv : IL w v ps) (hv2 : IL w v2 qs) (hp : ∀ x ∈ ps, 0 ≤ x ∧ x < qs.length) (hl : ps.length ≤ 1000000) :
    Ret Try.prog 113 #[v, v2] w fun r w' => OI w' w.heap.size 2 r (aft ps qs) ∧ Below w.heap.size w w' := by
  have shv := hv.sv
  have shv2 := hv2.sv
  have hb := Below.refl w.heap.size w
  refine enter2 27 Try.func113 rfl Try.ntmps113 rfl (fun fr => ?_)
  refine go ?_
  refine s_makeI (B := w.heap.size) (wn rfl) rfl rfl rfl (by omega) (by omega) (Nat.le_refl _) (fun ob w1 ho so hg _ => ?_)
  have hb1 := below_of_grownBy hg
  have e : ((ps.length : Int)).toNat = ps.length := by omega
  rw [e] at ho so
  refine go ?_
  refine w_loop (fun k fr w' => ∃ (i : Nat) (xs : List Int), k = ps.length - i ∧ i ≤ ps.length ∧ fr 1 = v2 ∧ fr 5 = ob ∧ fr 11 = v ∧ fr 12 = .int .i64 ps.length ∧ fr 13 = .int .i64 i ∧ xs.length = ps.length ∧ (∀ j : Int, 0 ≤ j → j < i → gi xs j = gi qs (gi ps j)) ∧ OI w' w.heap.size 2 ob xs ∧ Below w.heap.size w w') ps.length
    ⟨0, _, rfl, Nat.zero_le _, rfl, rfl, rfl, rfl, rfl, by simp, fun j h0 h1 => by omega, ho, hb1⟩ ?_
  rintro k fr w2 ⟨i, xs, rfl, hi, f1, f5, f11, f12, f13, hlx, hall, ho, hb⟩
  have so := ho.sv
  have hv := hv.below hb
  have hv2 := hv2.below hb
  refine know (t := 1) f1 ?_; refine know (t := 5) f5 ?_; refine know (t := 11) f11 ?_; refine know (t := 12) f12 ?_; refine know (t := 13) f13 ?_
  refine go ?_
  refine cond_dec rfl (fun hlt => ?_) (fun hge => ?_)
  · have hx := hp _ (gi_in (xs := ps) (j := i) (by omega))
    refine go ?_
    refine s_storeI (wn rfl) rfl rfl ho (by omega) (by omega) (fun w3 ho3 hg3 => ?_)
    have hb3 := hb.trans (ho.below_of hg3 hb.size)
    refine go ?_
    refine ⟨ps.length - (i + 1), by omega, i + 1, _, rfl, by omega, rfl, rfl, rfl, rfl, rfl, by simp [hlx], fun j h0 hj => ?_, ho3, hb3⟩
    rw [gi_seti _ _ _ _ (by omega) (by omega) h0]
    split
    · rename_i e; rw [e]
    · exact hall j h0 (by omega)
  · obtain rfl : i = ps.length := by omega
    have : xs = aft ps qs := list_ext_gi (by simp [hlx]) fun j h0 hj => by rw [hall j h0 (by omega), gi_aft h0 (by omega)]
    rw [this] at ho
    refine go ?_
    exact end_one Try.results113 rfl ⟨ho, hb⟩

set_option maxRecDepth 100000 in
theorem does_any (v : Value) (pv : Addr) (v2 : Value) (ms : List (List Int)) (wd : List Int) (w : World) (hv : RL w v ms) (hxv : w.cell? pv = some v) (hv2 : IL w v2 wd) (hm : IsMan ms) (hw : IsWord ms wd) :
    Ret Try.prog 89 #[.pointer (some pv), v2] w fun r w' => OI w' w.heap.size 2 r (does ms wd (nf ms)) ∧ Below w.heap.size w w' := by
  have shv := hv.sv
  have shv2 := hv2.sv
  have hb := Below.refl w.heap.size w
  have hv0 := hv
  have hxv0 := hxv
  have hv20 := hv2
  refine enter2 28 Try.func89 rfl Try.ntmps89 rfl (fun fr => ?_)
  have h1 := hm.m0.r1
  have h4 := hm.m0.f400
  have hw1 := hw.1
  have hw2 := hw.2
  refine go ?_
  refine s_call1 (wn rfl) rfl rfl (flags_any _ _ _ _ hxv hv h1) ?_
  rintro _ _ ⟨rfl, rfl⟩
  refine go ?_
  refine s_call1 (wn rfl) rfl rfl (identity_any _ (nf ms) (by omega)) ?_
  rintro pb w1 ⟨hp, hb1⟩
  replace hv := hv.below hb1
  replace hxv := cell_below hxv hb1
  replace hv2 := hv2.below hb1
  replace hb := hb.trans (hb1.mono hb.size)
  refine go ?_
  refine w_loop (fun k fr w' => ∃ (i : Nat) (pb : Value), k = wd.length - i ∧ i ≤ wd.length ∧ fr 0 = .pointer (some pv) ∧ fr 5 = pb ∧ fr 11 = v2 ∧ fr 12 = .int .i64 wd.length ∧ fr 13 = .int .i64 i ∧ OI w' w.heap.size 2 pb (does ms (wd.take i) (nf ms)) ∧ Below w.heap.size w w') wd.length
    ⟨0, pb, rfl, Nat.zero_le _, rfl, rfl, rfl, rfl, rfl, by simpa [does] using hp, hb⟩ ?_
  rintro k fr w2 ⟨i, pb, rfl, hi, f0, f5, f11, f12, f13, hp, hbL⟩
  have sp := hp.sv
  have hv := hv0.below hbL
  have hxv := cell_below hxv0 hbL
  have hv2 := hv20.below hbL
  refine know (t := 0) f0 ?_; refine know (t := 5) f5 ?_; refine know (t := 11) f11 ?_; refine know (t := 12) f12 ?_; refine know (t := 13) f13 ?_
  refine go ?_
  refine cond_dec rfl (fun hlt => ?_) (fun hge => ?_)
  · have hx := hw2 _ (gi_in (xs := wd) (j := i) (by omega))
    have hrow := hm.syst.row hx.1 hx.2
    have hrl := hrow.1
    obtain ⟨u, hu, hcu⟩ := hv.row hx.1 hx.2
    have su := hu.sv
    have hlen := length_does ms (wd.take i) (nf ms)
    refine go ?_
    refine s_call2 (wn rfl) rfl rfl rfl (then_any _ _ _ _ _ hp.il hu (fun x h => ?_) (by omega)) ?_
    · obtain ⟨j, hj, rfl⟩ := in_gi h
      rw [hrl, gi_does (by omega) (by omega)]
      exact run_rng hm.syst _ (fun x h => hw2 x (List.mem_of_mem_take h)) _ (by omega)
    rintro pb2 w3 ⟨hp2, hb3⟩
    have hs := hbL.size
    have hp2 := hp2.mono hs
    rw [← does_take_succ (by omega)] at hp2
    refine go ?_
    exact ⟨wd.length - (i + 1), by omega, i + 1, pb2, rfl, by omega, rfl, rfl, rfl, rfl, rfl, hp2, hbL.trans (hb3.mono hbL.size)⟩
  · obtain rfl : i = wd.length := by omega
    rw [List.take_length] at hp
    refine go ?_
    exact end_one Try.results89 rfl ⟨hp, hbL⟩

end Go.Proofs.Ytlodnhflfijomaa
