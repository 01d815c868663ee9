/- Contracts: slices.SortFunc at lists of lists of numbers: nothing but the list's own block turns. -/
import Derived.Test.YtkknhcpjiehgiaaDoorF42
import Derived.Test.YtkknhcpjiehgiaaDoorP52
import Derived.Test.YtkknhcpjiehgiaaDoorGr
import Derived.Test.YtkknhcpjiehgiaaDoorLr
import Derived.Test.YtkknhcpjiehgiaaDoorSg
namespace Go.Mem
open Go.RowKit Go.Sort
set_option linter.unusedVariables false
section
variable {w : World} {B : Nat} {T : TypeId} {v : Value} {vs : List Value}
theorem Own.placeR (h : Own w B T v vs) (hne : vs ≠ []) : ∃ g off cap, v = .slice (some ⟨g, off, none⟩) vs.length cap ∧ B ≤ g ∧ g < w.heap.size ∧ vs.length ≤ cap ∧ Holds id w g off vs.toArray := by
  rcases h with ⟨_, e⟩ | ⟨g, off, cap, cur, e, hb, hg, hl, hc, hs, hx⟩
  · exact absurd e hne
  · refine ⟨g, off, cap, e, hb, (Array.getElem?_eq_some_iff.1 hg).1, hl, fun j hj => ⟨?_, ?_⟩⟩
    · have hj' : j < vs.length := by simpa using hj
      have hu := hx j vs[j] (by simp [hj'])
      have he : vs.toArray[j]! = vs[j] := by rw [getElem!_pos vs.toArray j hj]; simp
      show _ = some (vs.toArray[j]!)
      rw [he]
      simp [World.cell?, hg, hu]
    · simp [World.frozen?, hg]
end
theorem sort_grown {α : Type} [Inhabited α] (enc : α → Value) (w : World) (g off n : Nat) (zs : Array α) (os : Array Obj) : w.grownBy (grow (putRow enc (Sort.ahead w n) g off zs) os) (some g) :=
  ⟨rfl, rfl, rfl, by simp, fun b hb hne => by
    rw [heap_grow_old _ os (by simpa using hb)]
    have : b ≠ g := fun e => hne (by rw [e])
    show ((Sort.ahead w n).heap.modify g _)[b]? = _
    rw [Array.getElem?_modify, if_neg (fun e => this e.symm)]
    rfl⟩
/-- the order of the lists at places -/
def cmpRow (xss : List (List Int)) (n : Nat) (i j : Fin n) : Int := cmpL ltI (xss.getD i.1 []) (xss.getD j.1 [])
theorem cmpRow_swo (xss : List (List Int)) (n : Nat) : SWO (Go.Proofs.ltOf (cmpRow xss n)) := by
  have h := lessL_sto
  have e : ∀ x y, Go.Proofs.ltOf (cmpRow xss n) x y = lessL (xss.getD x.1 []) (xss.getD y.1 []) := fun x y => cmpL_neg _ _
  refine ⟨fun x => by rw [e]; exact h.irr _, fun x y z h1 h2 => ?_, fun x y z h1 h2 => ?_⟩
  · rw [e] at *; exact h.tr _ _ _ h1 h2
  · rw [e] at *
    cases h3 : lessL (xss.getD x.1 []) (xss.getD z.1 []) with
    | false => rfl
    | true =>
      by_cases hxy : xss.getD x.1 [] = xss.getD y.1 []
      · rw [hxy, h2] at h3; cases h3
      · rcases h.tri _ _ hxy with h4 | h4
        · rw [h1] at h4; cases h4
        · have := h.tr _ _ _ h4 h3
          rw [h2] at this; cases this
end Go.Mem
namespace Go.Proofs.YtkknhcpjiehgiaaDoor
open Go.Mem Go.RowKit
set_option linter.unusedVariables false
set_option linter.unusedSimpArgs false

set_option maxHeartbeats 8000000 in
set_option maxRecDepth 100000 in
theorem Compare_eq (v : Value) (v2 : Value) (xs : List Int) (ys : List Int) (w : World) (hv : IL w v xs) (hv2 : IL w v2 ys) :
    Ret Tryd.prog 37 #[v, v2] w fun r w' => r = .int .i64 (cmpL ltI xs ys) ∧ w = w' := by
  have shv := hv.sv
  have shv2 := hv2.sv
  refine enter2 36 Tryd.func37 rfl Tryd.ntmps37 rfl (fun fr => ?_)
  have scap := shv.le
  have scap2 := shv2.le
  refine go ?_
  refine w_loop (fun kk fr w' => ∃ (i : Nat), kk = xs.length - i ∧ i ≤ xs.length ∧ fr 0 = v ∧ fr 1 = v2 ∧ fr 9 = v ∧ fr 10 = .int .i64 xs.length ∧ fr 11 = .int .i64 i ∧ (i ≤ ys.length) ∧ (xs.take i = ys.take i) ∧ w = w') (xs.length)
    ⟨0, rfl, Nat.zero_le _, rfl, rfl, rfl, rfl, rfl, Nat.zero_le _, by simp, rfl⟩ ?_
  rintro kk fr w1 ⟨i, rfl, hi, f0, f1, f9, f10, f11, hle, heq, rfl⟩
  refine know (t := 0) f0 ?_; refine know (t := 1) f1 ?_; refine know (t := 9) f9 ?_; refine know (t := 10) f10 ?_; refine know (t := 11) f11 ?_
  refine go ?_
  refine cond_dec rfl (fun hlt => ?_) (fun hge => ?_)
  · refine go ?_
    refine cond_dec rfl (fun hov => ?_) (fun hov => ?_)
    · obtain rfl : i = ys.length := by omega
      have e := cmpL_over (lt := ltI) heq (by omega)
      refine go ?_
      exact end_one Tryd.results37 rfl ⟨by rw [e], rfl⟩
    refine go ?_
    refine go ?_
    refine s_call2 (wn rfl) rfl rfl rfl (cmpCompare_any _ _ _) ?_
    rintro _ _ ⟨rfl, rfl⟩
    refine go ?_
    refine cond_dec rfl (fun hne => ?_) (fun hne => ?_)
    · have e := cmpL_at heq (by omega) (by omega) hne
      refine go ?_
      exact end_one Tryd.results37 rfl ⟨by rw [e], rfl⟩
    have hz := cmpI_zero.1 (Decidable.not_not.1 hne)
    refine go ?_
    refine ⟨xs.length - (i + 1), by omega, i + 1, rfl, by omega, rfl, rfl, rfl, rfl, rfl, by omega, take_gi_eq (by omega) (by omega) heq hz, rfl⟩
  obtain rfl : i = xs.length := by omega
  have e := cmpL_end (lt := ltI) heq hle
  refine go ?_
  refine cond_dec rfl (fun hsh => ?_) (fun hsh => ?_)
  · rw [if_pos (by omega)] at e
    refine go ?_
    exact end_one Tryd.results37 rfl ⟨by rw [e], rfl⟩
  rw [if_neg (by omega)] at e
  refine go ?_
  exact end_one Tryd.results37 rfl ⟨by rw [e], rfl⟩

theorem SortFuncR_any (v : Value) (xss : List (List Int)) (B : Nat) (w : World) (h : LR w B 40 2 v xss) (hne : xss ≠ []) (hl : xss.length ≤ 1000000) :
    Ret Tryd.prog 36 #[v, .func (.func 37) #[] #[]] w fun r w' => r = .tuple #[] ∧ w.grownBy w' v.ownBlock := by
  obtain ⟨vs, ho, hlen, hrow⟩ := h.out
  have hn : 0 < vs.length := by have := List.length_pos_iff.2 hne; omega
  obtain ⟨g, off, cap, rfl, hb, hlt, hc, hH⟩ := ho.placeR (List.length_pos_iff.1 hn)
  haveI : Inhabited (Fin vs.length) := ⟨⟨0, hn⟩⟩
  have hds : (Array.ofFn fun i : Fin vs.length => i).size = vs.length := by simp
  have hdi : ∀ j (hj : j < vs.length), (Array.ofFn fun i : Fin vs.length => i)[j]! = ⟨j, hj⟩ := fun j hj => by
    rw [getElem!_pos _ j (by simpa using hj)]; simp
  generalize (Array.ofFn fun i : Fin vs.length => i) = d at *
  have hrows : ∀ x : Fin vs.length, ∃ B', OI w B' 2 (vs.getD x.1 undef) (xss.getD x.1 []) := fun x => hrow x.1 _ _ (by simp [List.getD]) (by have := x.2; simp [List.getD, show x.1 < xss.length by omega])
  have hone : ∀ x : Fin vs.length, (vs.getD x.1 undef).oneCell' = true := fun x => by obtain ⟨_, h⟩ := hrows x; exact h.sv.one
  have hcmp : CmpLays1 Tryd.prog 37 #[] (fun i : Fin vs.length => vs.getD i.1 undef) (cmpRow xss vs.length) g off d.size w := by
    intro m os dk hs x y
    have hW : w.grownBy (sortWorld (fun i : Fin vs.length => vs.getD i.1 undef) w g off m dk os) (some g) := sort_grown _ w g off m dk os
    generalize sortWorld (fun i : Fin vs.length => vs.getD i.1 undef) w g off m dk os = W at *
    have gx : ∀ x : Fin vs.length, IL W (vs.getD x.1 undef) (xss.getD x.1 []) := fun x => by
      obtain ⟨B', hx⟩ := hrows x
      exact (hx.kept hW (hx.own.apart_type ho (by decide))).il
    refine Calls.mono (Compare_eq _ _ _ _ W (gx x) (gx y)) ?_
    rintro e w' ⟨u, he, hu, hw⟩
    subst hu
    subst hw
    exact ⟨he, Gr.refl W⟩
  have hH2 : Go.Sort.Holds (fun i : Fin vs.length => vs.getD i.1 undef) w g off d := fun j hj => by
    rw [hds] at hj
    have h1 := hH j (by simpa using hj)
    rw [hdi j hj]
    rw [getElem!_pos vs.toArray j (by simpa using hj)] at h1
    simpa [List.getD, hj] using h1
  have hcon := Any.slices_SortFunc Tryd.laysSortF (fun i : Fin vs.length => vs.getD i.1 undef) (fun x => hone x) (cmpRow xss vs.length) (cmpRow_swo xss vs.length) 37 #[] g off cap d w
    (fun args w => (inferInstance : FunTy Tryd.prog 37).enters args w) hcmp hH2 hlt (by omega)
  rw [hds] at hcon
  change Calls Tryd.prog 36 _ _ _ at hcon
  refine Calls.mono hcon ?_
  rintro e w' ⟨he, d', n, os, _, _, hw⟩
  subst he
  exact ⟨_, rfl, rfl, by rw [hw]; exact sort_grown _ w g off n d' os⟩

end Go.Proofs.YtkknhcpjiehgiaaDoor
