/- Contracts: rows taken out of an owned list, by a function that tells which. -/
import Derived.Test.YtdmjpbmhohanbaaFG
import Derived.Test.YtdmjpbmhohanbaaWC
import Derived.Test.YtdmjpbmhohanbaaFE
namespace Go.Proofs.Ytdmjpbmhohanbaa
open Go.Mem Go.RowKit
set_option linter.unusedVariables false

/-- where the first row is for which p holds (or -1) -/
def idxR (p : List Int → Bool) (xss : List (List Int)) (k : Nat) : Prop := k ≤ xss.length ∧ (∀ i, i < k → p (gr xss i) = false) ∧ (k < xss.length → p (gr xss k) = true)

set_option maxRecDepth 100000 in
theorem IndexFuncR_any (fn : FuncId) [FunTy Try.prog fn] (caps : Array Value) (p : List Int → Bool) (v : Value) (xss : List (List Int)) (vs : List Value) (w : World) (B E : Nat) (T : TypeId) (hv : Own w B T v vs) (hr : Rws w B E 2 vs xss) (hB : B ≤ w.heap.size)
    (hf : ∀ (w' : World) (u : Value) (xs : List Int), Below B w w' → xs ∈ xss → IL w' u xs → Ret Try.prog fn (#[u] ++ caps) w' fun r w'' => r = .bool (p xs) ∧ Below w'.heap.size w' w'') :
    Ret Try.prog 115 #[v, .func (.func fn) #[] caps] w fun r w' => (∃ k : Nat, idxR p xss k ∧ r = .int .i64 (if k < xss.length then (k : Int) else -1)) ∧ Below w.heap.size w w' := by
  have sv : SV v xss.length := by have := hv.rd.sv; rwa [hr.len] at this
  have scap := sv.le
  refine enter2 19 Try.func115 rfl Try.ntmps115 rfl (fun fr => ?_)
  refine go ?_
  refine w_loop (fun kk fr w' => ∃ (i : Nat), kk = xss.length - i ∧ i ≤ xss.length ∧ fr 0 = v ∧ fr 1 = .func (.func fn) #[] caps ∧ fr 7 = .int .i64 xss.length ∧ fr 8 = .int .i64 i ∧ (∀ j, j < i → p (gr xss j) = false) ∧ Below w.heap.size w w') xss.length
    ⟨0, rfl, Nat.zero_le _, rfl, rfl, rfl, rfl, fun j hj => by omega, Below.refl _ _⟩ ?_
  rintro kk fr w2 ⟨i, rfl, hi, f0, f1, f7, f8, hall, hb⟩
  have hv2 := hv.below hb
  have hr2 := hr.below hb
  refine know (t := 0) f0 ?_; refine know (t := 1) f1 ?_; refine know (t := 7) f7 ?_; refine know (t := 8) f8 ?_
  refine go ?_
  refine cond_dec rfl (fun hlt => ?_) (fun hge => ?_)
  · obtain ⟨u, hu, hou⟩ := hr2.il (i := i) (by omega)
    have hcu := hv2.rd.cell hu
    have hto : ((i : Int)).toNat = i := by omega
    rw [← hto] at hcu
    refine go ?_
    refine s_callV1 (wn rfl) rfl rfl rfl (hf _ _ _ (hb.mono hB) (gr_in (by omega)) hou.il) ?_
    rintro _ w3 ⟨rfl, hb3⟩
    have hb3 := hb.trans (hb3.mono hb.size)
    refine splitb (p (gr xss i)) (fun hp => ?_) (fun hp => ?_)
    · refine go ?_
      exact end_one Try.results115 rfl ⟨⟨i, ⟨by omega, hall, fun _ => hp⟩, by rw [if_pos (by omega)]⟩, hb3⟩
    · refine go ?_
      exact ⟨xss.length - (i + 1), by omega, i + 1, rfl, by omega, rfl, rfl, rfl, rfl, fun j hj => by by_cases hji : j = i; (subst hji; exact hp); exact hall j (by omega), hb3⟩
  · obtain rfl : i = xss.length := by omega
    refine go ?_
    exact end_one Try.results115 rfl ⟨⟨xss.length, ⟨Nat.le_refl _, hall, fun h => by omega⟩, by rw [if_neg (by omega)]⟩, hb⟩

theorem SV.cells {v : Value} {m : Nat} (h : SV v m) : v.cells = #[v] := by
  obtain ⟨a, cap, rfl, _⟩ := h.out
  rfl
theorem OI.beside {w w' : World} {B B' E : Nat} {T U : TypeId} {v ob : Value} {xs : List Int} {xss : List (List Int)} (h : OI w B U v xs) (ho : OM w B' E T U ob xss) (hT : T ≠ U) (hg : w.grownBy w' ob.ownBlock) : OI w' B U v xs := by
  obtain ⟨vs, h1, _⟩ := ho.out
  exact h.kept hg (h.own.apart_type h1 (fun e => hT e.symm))
theorem filterMap_take {f : Int → Option (List Int)} {L : List Int} {k : Nat} (hk : k < L.length) : (L.take (k + 1)).filterMap f = (L.take k).filterMap f ++ (f (gi L k)).toList := by
  rw [take_gi hk, List.filterMap_append]
  cases h : f (gi L k) <;> simp [h]
theorem filterMap_le {f : Int → Option (List Int)} (L : List Int) : (L.filterMap f).length ≤ L.length := List.length_filterMap_le f L

end Go.Proofs.Ytdmjpbmhohanbaa
