/- Plain words on lists: symmetry types and standard automorphisms, as the general law says. No program in sight. -/
import Derived.Test.YtlodnhflfijomaaP22
import Derived.Test.YtlodnhflfijomaaPC
import Derived.Test.YtlodnhflfijomaaP26
namespace Go.Mem
set_option linter.unusedVariables false
section
variable {ms : List (List Int)}
theorem symT_gr (hm : IsMan ms) {k : Nat} (hk : k < ms.length) : gr (symT ms) k = symRow (labs (nf ms) (auts ms)) (labc (nf ms) (auts ms)).toNat (gr ms k) := by
  rw [symT_yes hm]
  simp [gr, List.getD, hk]
theorem length_symT (hm : IsMan ms) : (symT ms).length = ms.length := by rw [symT_yes hm]; simp
theorem symT_at (hm : IsMan ms) {k : Nat} (hk : k < ms.length) {x : Int} (hx : 0 ≤ x ∧ x < nf ms) : gi (gr (symT ms) k) (gi (labs (nf ms) (auts ms)) x) = gi (labs (nf ms) (auts ms)) (gi (gr ms k) x) := by
  rw [symT_gr hm hk]
  exact gi_symRow (homs_comm hm (fun p hp => (mem_auts hm).1 hp) hk) (auts_sym hm) (by have := hm.m0.f400; omega) hx
theorem symT_twice (hm : IsMan ms) {k : Nat} (hk : k < ms.length) {x : Int} (hx : 0 ≤ x ∧ x < nf ms) : gi (gr (symT ms) k) (gi (gr (symT ms) k) (gi (labs (nf ms) (auts ms)) x)) = gi (labs (nf ms) (auts ms)) x := by
  have hy := hm.syst.at (j := (k : Int)) (x := x) (by omega) (by omega) hx
  have hmem : gr ms k ∈ ms := by simp [gr, List.getD, hk]
  rw [symT_at hm hk hx, symT_at hm hk hy, hm.m0.twice hmem hx]
theorem length_stdA (hm : IsMan ms) (h : labc (nf ms) (auts ms) = 1) : (stdA ms).length = ms.length := by rw [(stdA_3 hm h).1]; simp
theorem std_gr (hm : IsMan ms) (h : labc (nf ms) (auts ms) = 1) {k : Nat} (hk : k < ms.length) : Hom ms ms (gr (stdA ms) k) ∧ gi (gr (stdA ms) k) 0 = gi (gr ms k) 0 := by
  have e := stdA_gr hm h hk
  have e2 : gr (stdA ms) k = (mapTo ms ms (gi (gr ms k) 0)).getD [] := by
    rw [(stdA_3 hm h).1]
    simp [gr, List.getD, hk]
  rw [e] at e2
  have hr := hm.syst.at (j := (k : Int)) (x := 0) (by omega) (by omega) (by have := hm.m0.f2; omega)
  have h2 := (mapT_iff hm hm (flag := gi (gr ms k) 0) hr (p := gr (auts ms) (gi (gr ms k) 0))).1 (by rw [mapT_self]; exact e)
  rw [e2]
  exact ⟨h2.2.1, h2.2.2⟩
theorem std_perm (hm : IsMan ms) (h : labc (nf ms) (auts ms) = 1) : ∀ xs ∈ stdA ms, (xs.length : Int) = nf ms ∧ IsPerm xs := fun xs hx => by
  obtain ⟨k, hk, rfl⟩ := mem_gr hx
  rw [length_stdA hm h] at hk
  obtain ⟨hp, _⟩ := std_gr hm h hk
  have hl := hp.len
  refine ⟨by omega, by have := hm.m0.f400; omega, fun x hx => ?_, hp.nodup hm hm rfl rfl⟩
  obtain ⟨i, hi, rfl⟩ := in_gi hx
  rw [hl]
  exact hp.rng i (by omega) (by omega)
theorem hom_run (hm : IsMan ms) {p : List Int} (hp : Hom ms ms p) : ∀ (wd : List Int), (∀ x ∈ wd, 0 ≤ x ∧ x < ms.length) → ∀ x : Int, 0 ≤ x ∧ x < nf ms → gi p (run ms wd x) = run ms wd (gi p x)
  | [], _, x, _ => rfl
  | y :: wd, h, x, hx => by
    have hy := h y (by simp)
    have hn := hm.syst.at (j := y) (x := x) hy.1 hy.2 hx
    show gi p (run ms wd (gi (gr ms y) x)) = run ms wd (gi (gr ms y) (gi p x))
    rw [hom_run hm hp wd (fun z hz => h z (by simp [hz])) _ hn]
    have := hp.mv y.toNat (by omega) x hx.1 hx.2
    rw [show ((y.toNat : Nat) : Int) = y by omega] at this
    rw [this]
theorem std_step (hm : IsMan ms) (h : labc (nf ms) (auts ms) = 1) {wd : List Int} (hr : ∀ x ∈ wd, 0 ≤ x ∧ x < ms.length) {i : Nat} (hi : i < wd.length) :
    run ms (wd.take (i + 1)).reverse 0 = gi (gr (stdA ms) (gi wd i)) (run ms (wd.take i).reverse 0) := by
  have hw := hr _ (gi_in hi)
  have f2 := hm.m0.f2
  obtain ⟨hp, h0⟩ := std_gr hm h (k := (gi wd i).toNat) (by omega)
  rw [show (((gi wd i).toNat : Nat) : Int) = gi wd i by omega] at hp h0
  rw [take_gi hi, List.reverse_append, List.reverse_singleton]
  show run ms (wd.take i).reverse (gi (gr ms (gi wd i)) 0) = _
  rw [← h0]
  exact (hom_run hm hp _ (fun x hx => hr x (List.mem_of_mem_take (List.mem_reverse.1 hx))) 0 (by omega)).symm
end
end Go.Mem
