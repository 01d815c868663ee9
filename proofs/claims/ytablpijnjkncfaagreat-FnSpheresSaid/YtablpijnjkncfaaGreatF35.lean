/- Contracts: ReplaceMoves, on both sides. -/
import Derived.Test.YtablpijnjkncfaaGreatF33
import Derived.Test.YtablpijnjkncfaaGreatF26
namespace Go.Mem
noncomputable instance (ms ws : List (List Int)) : Decidable (∀ w ∈ ws, IsWord ms w) := Classical.propDecidable _
/-- one to five words -/
def WordsOk (ms ws : List (List Int)) : Prop := 1 ≤ ws.length ∧ ws.length ≤ 5 ∧ ∀ w ∈ ws, IsWord ms w
noncomputable instance (ms ws : List (List Int)) : Decidable (WordsOk ms ws) := Classical.propDecidable _
noncomputable def rmL (ms ws : List (List Int)) : List (List Int) := if IsMan ms ∧ WordsOk ms ws then replL ms ws else []
noncomputable def rmC (ms ws : List (List Int)) : Int := if IsMan ms then (if WordsOk ms ws then replC ms ws else 2) else 1
section
variable {ms ws : List (List Int)}
theorem rm_1 (h : ¬ IsMan ms) : rmL ms ws = [] ∧ rmC ms ws = 1 := ⟨if_neg fun e => h e.1, if_neg h⟩
theorem rm_2 (hm : IsMan ms) (h : ¬ WordsOk ms ws) : rmL ms ws = [] ∧ rmC ms ws = 2 := ⟨if_neg fun e => h e.2, by unfold rmC; rw [if_pos hm, if_neg h]⟩
theorem rm_3 (hm : IsMan ms) (h : WordsOk ms ws) : rmL ms ws = replL ms ws ∧ rmC ms ws = replC ms ws := ⟨if_pos ⟨hm, h⟩, by unfold rmC; rw [if_pos hm, if_pos h]⟩
theorem rmL_len (ms ws : List (List Int)) : 1 + tot (rmL ms ws) ≤ 4000000000000000000 := by
  unfold rmL
  split
  · exact replL_len _ _
  · simp [tot]
end
end Go.Mem
namespace Go.Proofs.YtablpijnjkncfaaGreat
open Go.Mem Go.RowKit
set_option linter.unusedVariables false

set_option maxRecDepth 100000 in
theorem IndexFuncRL_any (fn : FuncId) [FunTy Tryz.prog fn] (caps : Array Value) (p : List Int → Bool) (v : Value) (xss : List (List Int)) (w : World) (hv : RL w v xss)
    (hf : ∀ (w' : World) (u : Value) (xs : List Int), Below w.heap.size w w' → xs ∈ xss → IL w' u xs → Ret Tryz.prog fn (#[u] ++ caps) w' fun r w'' => r = .bool (p xs) ∧ Below w'.heap.size w' w'') :
    Ret Tryz.prog 81 #[v, .func (.func fn) #[] caps] w fun r w' => (∃ k : Nat, idxR p xss k ∧ r = .int .i64 (if k < xss.length then (k : Int) else -1)) ∧ Below w.heap.size w w' := by
  have sv := hv.sv
  have scap := sv.le
  refine enter2 19 Tryz.func81 rfl Tryz.ntmps81 rfl (fun fr => ?_)
  refine go ?_
  refine w_loop (fun kk fr w' => ∃ (i : Nat), kk = xss.length - i ∧ i ≤ xss.length ∧ fr 0 = v ∧ fr 1 = .func (.func fn) #[] caps ∧ fr 7 = .int .i64 xss.length ∧ fr 8 = .int .i64 i ∧ (∀ j, j < i → p (gr xss j) = false) ∧ Below w.heap.size w w') xss.length
    ⟨0, rfl, Nat.zero_le _, rfl, rfl, rfl, rfl, fun j hj => by omega, Below.refl _ _⟩ ?_
  rintro kk fr w2 ⟨i, rfl, hi, f0, f1, f7, f8, hall, hb⟩
  have hv2 := hv.below hb
  refine know (t := 0) f0 ?_; refine know (t := 1) f1 ?_; refine know (t := 7) f7 ?_; refine know (t := 8) f8 ?_
  refine go ?_
  refine cond_dec rfl (fun hlt => ?_) (fun hge => ?_)
  · obtain ⟨u, hu, hcu⟩ := hv2.row (j := (i : Int)) (by omega) (by omega)
    refine go ?_
    refine s_callV1 (wn rfl) rfl rfl rfl (hf _ _ _ hb (gr_in (by omega)) hu) ?_
    rintro _ w3 ⟨rfl, hb3⟩
    have hb3 := hb.trans (hb3.mono hb.size)
    refine splitb (p (gr xss i)) (fun hp => ?_) (fun hp => ?_)
    · refine go ?_
      exact end_one Tryz.results81 rfl ⟨⟨i, ⟨by omega, hall, fun _ => hp⟩, by rw [if_pos (by omega)]⟩, hb3⟩
    · refine go ?_
      exact ⟨xss.length - (i + 1), by omega, i + 1, rfl, by omega, rfl, rfl, rfl, rfl, fun j hj => by by_cases hji : j = i; (subst hji; exact hp); exact hall j (by omega), hb3⟩
  · obtain rfl : i = xss.length := by omega
    refine go ?_
    exact end_one Tryz.results81 rfl ⟨⟨xss.length, ⟨Nat.le_refl _, hall, fun h => by omega⟩, by rw [if_neg (by omega)]⟩, hb⟩

theorem ContainsFuncRL_any (fn : FuncId) [FunTy Tryz.prog fn] (caps : Array Value) (p : List Int → Bool) (v : Value) (xss : List (List Int)) (w : World) (hv : RL w v xss)
    (hf : ∀ (w' : World) (u : Value) (xs : List Int), Below w.heap.size w w' → xs ∈ xss → IL w' u xs → Ret Tryz.prog fn (#[u] ++ caps) w' fun r w'' => r = .bool (p xs) ∧ Below w'.heap.size w' w'') :
    Ret Tryz.prog 38 #[v, .func (.func fn) #[] caps] w fun r w' => r = .bool (xss.any p) ∧ Below w.heap.size w w' := by
  refine enter2 9 Tryz.func38 rfl Tryz.ntmps38 rfl (fun fr => ?_)
  refine go ?_
  refine s_call2 (wn rfl) rfl rfl rfl (IndexFuncRL_any fn caps p v xss w hv hf) ?_
  rintro _ w2 ⟨⟨k, ⟨h1, h2, h3⟩, rfl⟩, hb⟩
  have e : decide (0 ≤ (if k < xss.length then (k : Int) else -1)) = xss.any p := by
    by_cases hk : k < xss.length
    · rw [if_pos hk, decide_eq_true (by omega), Eq.comm, List.any_eq_true]
      exact ⟨_, gr_in hk, h3 hk⟩
    · rw [if_neg hk, decide_eq_false (by omega), Eq.comm, List.any_eq_false]
      intro x hx
      obtain ⟨j, hj, rfl⟩ := mem_gr hx
      rw [h2 j (by omega)]; simp
  refine go ?_
  exact end_one Tryz.results38 rfl ⟨by rw [← e], hb⟩

end Go.Proofs.YtablpijnjkncfaaGreat
