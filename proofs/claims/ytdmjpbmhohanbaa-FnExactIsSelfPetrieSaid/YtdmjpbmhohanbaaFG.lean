/- Texts laid together: F24 F25. -/
import Derived.Test.YtdmjpbmhohanbaaFF
import Derived.Test.YtdmjpbmhohanbaaWC
import Derived.Test.YtdmjpbmhohanbaaPC
/- Contracts: all moves but one; faces, on both sides. -/
namespace Go.Proofs.Ytdmjpbmhohanbaa
open Go.Mem Go.RowKit
set_option linter.unusedVariables false


/-- an owned list of rows that were there at w0 -/
def OX (w0 w : World) (B : Nat) (T : TypeId) (v : Value) (xss : List (List Int)) : Prop :=
  ∃ vs, Own w B T v vs ∧ (∀ u ∈ vs, u.oneCell' = true) ∧ vs.length = xss.length ∧ ∀ (i : Nat) u xs, vs[i]? = some u → xss[i]? = some xs → IL w0 u xs
theorem OX.rl {w0 w : World} {B : Nat} {T : TypeId} {v : Value} {xss : List (List Int)} (h : OX w0 w B T v xss) (hb : Below w0.heap.size w0 w) : RL w v xss := by
  obtain ⟨vs, h1, _, h2, h3⟩ := h
  exact ⟨vs, h1.rd, h2, fun i u xs hu hx => (h3 i u xs hu hx).below hb⟩

set_option maxRecDepth 100000 in
theorem CloneR_any (v : Value) (xss : List (List Int)) (w : World) (hv : RL w v xss) (hl : xss.length ≤ 1000000) :
    Ret Try.prog 103 #[v] w fun r w' => OX w w' w.heap.size 42 r xss ∧ Below w.heap.size w w' := by
  have sv := hv.sv
  refine enter1 8 Try.func103 rfl Try.ntmps103 rfl (fun fr => ?_)
  refine go ?_
  cases hn : nilV v with
  | true =>
    have hx : xss = [] := by
      by_cases h : xss.length = 0
      · exact List.length_eq_zero_iff.1 h
      · rw [nilV_of sv h] at hn; simp at hn
    subst hx
    refine go ?_
    exact end_one Try.results103 rfl ⟨⟨[], Own.nil _ _ _, by simp, rfl, by simp⟩, Below.refl _ _⟩
  | false =>
    obtain ⟨vs, h1, h2, h3⟩ := hv.out
    refine go ?_
    refine s_build (B := w.heap.size) [] (wn rfl) rfl (by simp) (by decide) rfl (by simp) (Nat.le_refl _) (fun ob w1 ho hg1 _ => ?_)
    have hb1 := below_of_grownBy hg1
    have sz1 := hb1.size
    have one : ∀ u ∈ vs, u.oneCell' = true := fun u hu => by
      obtain ⟨i, hi, e⟩ := List.mem_iff_getElem.1 hu
      have := h3 i u (xss[i]'(by omega)) (by simp [hi, e]) (by simp)
      exact this.sv.one
    refine go ?_
    refine s_append (wn rfl) rfl rfl rfl ho (h1.below hb1) one (by simp; omega) sz1 (fun ob' w2 ho2 hg2 _ => ?_)
    have hb2 := hb1.trans (grownBy_below hg2 sz1 (fun k hk => (ho.lt k hk).1))
    refine go ?_
    refine end_one Try.results103 rfl ⟨⟨vs, by simpa using ho2, one, h2, h3⟩, hb2⟩

theorem oth_len {ms : List (List Int)} {i : Int} (hi : 0 ≤ i ∧ i < ms.length) : (oth ms i).length = ms.length - 1 := by
  unfold oth; rw [List.length_eraseIdx_of_lt (by omega)]

theorem othTo_hit {ms : List (List Int)} {k i : Nat} (h : i < ms.length) (e : i = k) : (ms.take (i + 1)).eraseIdx k = (ms.take i).eraseIdx k := by
  subst e
  rw [List.eraseIdx_eq_take_drop_succ, List.eraseIdx_of_length_le (by simp; omega)]
  simp [List.take_take]
theorem othTo_miss {ms : List (List Int)} {k i : Nat} (h : i < ms.length) (e : i ≠ k) : (ms.take (i + 1)).eraseIdx k = (ms.take i).eraseIdx k ++ [gr ms i] := by
  have ht : ms.take (i + 1) = ms.take i ++ [gr ms i] := by
    rw [List.take_succ_eq_append_getElem h]
    simp [gr, List.getD, h]
  rw [ht]
  by_cases hlt : k < i
  · rw [List.eraseIdx_append_of_lt_length (by simp; omega)]
  · rw [List.eraseIdx_of_length_le (by simp; omega), List.eraseIdx_of_length_le (by simp; omega)]

end Go.Proofs.Ytdmjpbmhohanbaa

/- Contracts: FaceMap, FaceOrbits, IsTransitiveOn, on both sides. -/
namespace Go.Proofs.Ytdmjpbmhohanbaa
open Go.Mem Go.RowKit
set_option linter.unusedVariables false
end Go.Proofs.Ytdmjpbmhohanbaa
