/- Plain words on lists: quotients by automorphisms. No program in sight. -/
import Derived.Test.YtlodnhflfijomaaP20
import Derived.Test.YtlodnhflfijomaaPC
namespace Go.Mem
set_option linter.unusedVariables false
theorem Rch.sub {A B : List (List Int)} (h : ∀ m ∈ A, m ∈ B) {x y : Int} (hr : Rch A x y) : Rch B x y := by
  induction hr with
  | refl => exact .refl _
  | step hr hm ih => exact .step ih (h _ hm)
/-- a permutation leads back -/
theorem perm_back {p : List Int} {n : Nat} (hl : p.length = n) (hn : p.Nodup) (hr : ∀ x ∈ p, 0 ≤ x ∧ x < n) (hN : n ≤ 1000) {x : Int} (hx : 0 ≤ x ∧ x < n) : Rch [p] (gi p x) x := by
  have hs : Syst n [p] := fun m hm => by
    simp at hm; subst hm; exact ⟨hl, hr⟩
  have hpx := hs.mem (m := p) (by simp) hx
  obtain ⟨O, hm, hOn⟩ : ∃ O : List Int, (∀ y : Int, y ∈ O ↔ Rch [p] (gi p x) y) ∧ O.Nodup := ⟨orbit [p] (gi p x), fun y => mem_orbit hs hpx hN, orbit_nodup _ _⟩
  refine Classical.byContradiction fun hno => ?_
  have hxo : x ∉ O := fun h => hno ((hm _).1 h)
  have hnd : (x :: O).Nodup := by rw [List.nodup_cons]; exact ⟨hxo, hOn⟩
  have hrg : ∀ y ∈ x :: O, 0 ≤ y ∧ y < p.length := fun y hy => by
    rcases List.mem_cons.1 hy with rfl | hy
    · omega
    · have := ((hm _).1 hy).rng hs hpx; omega
  have hnd2 : ((x :: O).map (gi p)).Nodup := by
    refine List.pairwise_map.2 ?_
    refine List.Pairwise.imp_of_mem (fun {a b} ha hb hab e => ?_) (List.nodup_iff_pairwise_ne.1 hnd)
    exact hab (gi_inj hn (hrg a ha) (hrg b hb) e)
  have hsub : ∀ y ∈ (x :: O).map (gi p), y ∈ O := fun y hy => by
    obtain ⟨z, hz, rfl⟩ := List.mem_map.1 hy
    rcases List.mem_cons.1 hz with rfl | hz
    · exact (hm _).2 (.refl _)
    · exact (hm _).2 (.step ((hm _).1 hz) (by simp))
  have := List.Nodup.length_le_of_subset hnd2 hsub
  simp at this
  omega
section
variable {ms A : List (List Int)}
theorem homs_sym (hm : IsMan ms) (hA : ∀ p ∈ A, Hom ms ms p) : Sym (nf ms) A := by
  have h4 := hm.m0.f400
  have hs : Syst (nf ms) A := fun p hp => by
    have h := hA p hp
    refine ⟨h.len, fun x hx => ?_⟩
    obtain ⟨i, hi, e⟩ := in_gi hx
    rw [← e]
    exact h.rng i (by omega) (by rw [← h.len]; omega)
  refine ⟨hs, fun x y h0 hx hr => ?_⟩
  induction hr with
  | refl => exact .refl _
  | @step y p hr hpa ih =>
    have hy := hr.rng hs ⟨h0, hx⟩
    have hb := perm_back (hA p hpa).len ((hA p hpa).nodup hm hm rfl rfl) (hs p hpa).2 (by omega) hy
    exact (hb.sub (fun m hm' => by simp at hm'; subst hm'; exact hpa)).trans ih
theorem homs_comm (hm : IsMan ms) (hA : ∀ p ∈ A, Hom ms ms p) {j : Nat} (hj : j < ms.length) : Comm (nf ms) A (gr ms j) := by
  refine ⟨(hm.syst.row (j := (j : Int)) (by omega) (by omega)).1, fun x h0 hx => hm.syst.at (j := (j : Int)) (by omega) (by omega) ⟨h0, hx⟩, fun p hp x h0 hx => ?_⟩
  exact ((hA p hp).mv j hj x h0 hx).symm
/-- the quotient by automorphisms -/
def quoL (ms A : List (List Int)) : List (List Int) := ms.map (symRow (labs (nf ms) A) (labc (nf ms) A).toNat)
theorem quoL_tot (hm : IsMan ms) (hA : ∀ p ∈ A, Hom ms ms p) : 1 + tot (quoL ms A) ≤ 4000000000000000000 := by
  have r5 := hm.m0.r5
  have f4 := hm.m0.f400
  have hL := (labs_all (homs_sym hm hA) (by omega)).c0
  refine rows_tot (n := 1000) (by simp [quoL]; omega) (fun xs hx => ?_) (by omega)
  obtain ⟨m, _, rfl⟩ := List.mem_map.1 hx
  rw [length_symRow]; omega
/-- at most 16 automorphisms -/
def AutsOk (ms A : List (List Int)) : Prop := A.length ≤ 16 ∧ ∀ p ∈ A, IsCov ms ms p
noncomputable instance (ms A : List (List Int)) : Decidable (AutsOk ms A) := Classical.propDecidable _
theorem AutsOk.hom (h : AutsOk ms A) (hm : IsMan ms) : ∀ p ∈ A, Hom ms ms p := fun p hp => ((h.2 p hp).hom hm hm).2
noncomputable def qbC (ms A : List (List Int)) : Int := if IsMan ms then (if AutsOk ms A then (if IsMan (quoL ms A) then 0 else 5) else 2) else 1
noncomputable def qbL (ms A : List (List Int)) : List (List Int) := if qbC ms A = 0 then quoL ms A else []
theorem qb_1 (h : ¬ IsMan ms) : qbL ms A = [] ∧ qbC ms A = 1 := by
  have e : qbC ms A = 1 := if_neg h
  exact ⟨if_neg (by rw [e]; decide), e⟩
theorem qb_2 (hm : IsMan ms) (h : ¬ AutsOk ms A) : qbL ms A = [] ∧ qbC ms A = 2 := by
  have e : qbC ms A = 2 := by unfold qbC; rw [if_pos hm, if_neg h]
  exact ⟨if_neg (by rw [e]; decide), e⟩
theorem qb_3 (hm : IsMan ms) (h : AutsOk ms A) (h2 : ¬ IsMan (quoL ms A)) : qbL ms A = [] ∧ qbC ms A = 5 := by
  have e : qbC ms A = 5 := by unfold qbC; rw [if_pos hm, if_pos h, if_neg h2]
  exact ⟨if_neg (by rw [e]; decide), e⟩
theorem qb_4 (hm : IsMan ms) (h : AutsOk ms A) (h2 : IsMan (quoL ms A)) : qbL ms A = quoL ms A ∧ qbC ms A = 0 := by
  have e : qbC ms A = 0 := by unfold qbC; rw [if_pos hm, if_pos h, if_pos h2]
  exact ⟨if_pos e, e⟩
theorem qbL_len (ms A : List (List Int)) : 1 + tot (qbL ms A) ≤ 4000000000000000000 := by
  by_cases hm : IsMan ms
  · by_cases h : AutsOk ms A
    · by_cases h2 : IsMan (quoL ms A)
      · rw [(qb_4 hm h h2).1]; exact quoL_tot hm (h.hom hm)
      · rw [(qb_3 hm h h2).1]; simp [tot]
    · rw [(qb_2 hm h).1]; simp [tot]
  · rw [(qb_1 hm).1]; simp [tot]
end
end Go.Mem
