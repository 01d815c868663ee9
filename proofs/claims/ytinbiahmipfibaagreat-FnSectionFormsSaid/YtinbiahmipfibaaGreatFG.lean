/- Texts laid together: F24 F25. -/
import Derived.Test.YtinbiahmipfibaaGreatFF
import Derived.Test.YtinbiahmipfibaaGreatWC
import Derived.Test.YtinbiahmipfibaaGreatPC
/- Contracts: all moves but one; faces, on both sides. -/
namespace Go.Proofs.YtinbiahmipfibaaGreat
open Go.Mem Go.RowKit
set_option linter.unusedVariables false


/-- an owned list of rows that were there at w0 -/
def OX (w0 w : World) (B : Nat) (T : TypeId) (v : Value) (xss : List (List Int)) : Prop :=
  ∃ vs, Own w B T v vs ∧ (∀ u ∈ vs, u.oneCell' = true) ∧ vs.length = xss.length ∧ ∀ (i : Nat) u xs, vs[i]? = some u → xss[i]? = some xs → IL w0 u xs
theorem OX.rl {w0 w : World} {B : Nat} {T : TypeId} {v : Value} {xss : List (List Int)} (h : OX w0 w B T v xss) (hb : Below w0.heap.size w0 w) : RL w v xss := by
  obtain ⟨vs, h1, _, h2, h3⟩ := h
  exact ⟨vs, h1.rd, h2, fun i u xs hu hx => (h3 i u xs hu hx).below hb⟩

theorem oth_len {ms : List (List Int)} {i : Int} (hi : 0 ≤ i ∧ i < ms.length) : (oth ms i).length = ms.length - 1 := by
  unfold oth; rw [List.length_eraseIdx_of_lt (by omega)]

set_option maxRecDepth 100000 in
theorem hasRank_any (v : Value) (pv : Addr) (ms : List (List Int)) (i : Int) (w : World) (hv : RL w v ms) (hxv : w.cell? pv = some v) (h5 : ms.length ≤ 5) :
    Ret Tryz.prog 41 #[.pointer (some pv), .int .i64 i] w fun r w' => r = .bool (decide (0 ≤ i ∧ i < ms.length)) ∧ w = w' := by
  have shv := hv.sv
  have hb := Below.refl w.heap.size w
  refine enter2 10 Tryz.func41 rfl Tryz.ntmps41 rfl (fun fr => ?_)
  refine go ?_
  refine s_call1 (wn rfl) rfl rfl (rank_any _ _ _ _ hxv shv) ?_
  rintro _ _ ⟨rfl, rfl⟩
  refine go ?_
  refine s_call3 (wn rfl) rfl rfl rfl rfl (within_any _ _ _ _) ?_
  rintro _ _ ⟨rfl, rfl⟩
  refine go ?_
  exact end_one Tryz.results41 rfl ⟨by rw [inB_flag], rfl⟩

theorem othTo_hit {ms : List (List Int)} {k i : Nat} (h : i < ms.length) (e : i = k) : (ms.take (i + 1)).eraseIdx k = (ms.take i).eraseIdx k := by
  subst e
  rw [List.eraseIdx_eq_take_drop_succ, List.eraseIdx_of_length_le (by simp; omega)]
  simp [List.take_take]
theorem othTo_miss {ms : List (List Int)} {k i : Nat} (h : i < ms.length) (e : i ≠ k) : (ms.take (i + 1)).eraseIdx k = (ms.take i).eraseIdx k ++ [gr ms i] := by
  have ht : ms.take (i + 1) = ms.take i ++ [gr ms i] := by
    rw [List.take_succ_eq_append_getElem h]
    simp [gr, List.getD, h]
  rw [ht]
  by_cases hlt : k < i
  · rw [List.eraseIdx_append_of_lt_length (by simp; omega)]
  · rw [List.eraseIdx_of_length_le (by simp; omega), List.eraseIdx_of_length_le (by simp; omega)]

end Go.Proofs.YtinbiahmipfibaaGreat

/- Contracts: FaceMap, FaceOrbits, IsTransitiveOn, on both sides. -/
namespace Go.Proofs.YtinbiahmipfibaaGreat
open Go.Mem Go.RowKit
set_option linter.unusedVariables false
theorem Index_any (v : Value) (xs : List Int) (a : Int) (w : World) (hv : IL w v xs) :
    Ret Tryz.prog 43 #[v, .int .i64 a] w fun r w' => r = .int .i64 (idxOf xs a) ∧ w = w' := by
  have sv := hv.sv
  have scap := sv.le
  refine enter2 19 Tryz.func43 rfl Tryz.ntmps43 rfl (fun fr => ?_)
  refine go ?_
  refine w_loop (fun k fr w' => ∃ (i : Nat), k = xs.length - i ∧ i ≤ xs.length ∧ fr 0 = v ∧ fr 1 = .int .i64 a ∧ fr 7 = .int .i64 xs.length ∧ fr 8 = .int .i64 i ∧ (∀ j : Nat, j < i → gi xs j ≠ a) ∧ w = w') xs.length
    ⟨0, rfl, Nat.zero_le _, rfl, rfl, rfl, rfl, fun j hj => by omega, rfl⟩ ?_
  rintro k fr _ ⟨i, rfl, hi, f0, f1, f7, f8, hall, rfl⟩
  refine know (t := 0) f0 ?_; refine know (t := 1) f1 ?_; refine know (t := 7) f7 ?_; refine know (t := 8) f8 ?_
  refine go ?_
  refine cond_dec rfl (fun hlt => ?_) (fun hge => ?_)
  · refine go ?_
    refine cond_dec rfl (fun he => ?_) (fun hne => ?_)
    · refine go ?_
      exact end_one Tryz.results43 rfl ⟨by rw [idxOf_hit (by omega) he.symm hall], rfl⟩
    · refine go ?_
      exact ⟨xs.length - (i + 1), by omega, i + 1, rfl, by omega, rfl, rfl, rfl, rfl, fun j hj => by by_cases hji : j = i; (subst hji; exact fun e => hne e.symm); exact hall j (by omega), rfl⟩
  · obtain rfl : i = xs.length := by omega
    refine go ?_
    exact end_one Tryz.results43 rfl ⟨by rw [idxOf_none hall], rfl⟩

end Go.Proofs.YtinbiahmipfibaaGreat
