/- Plain words on lists: what the general law on Petrie lengths says. No program in sight. -/
import Derived.Test.YtlodnhflfijomaaP25
namespace Go.Mem
set_option linter.unusedVariables false
theorem dvd_lcms {x : Nat} : ∀ {L : List Nat}, x ∈ L → x ∣ lcms L
  | [], h => by simp at h
  | y :: L, h => by
    rw [lcms_cons]
    rcases List.mem_cons.1 h with rfl | h
    · exact Nat.dvd_lcm_left _ _
    · exact Nat.dvd_trans (dvd_lcms h) (Nat.dvd_lcm_right _ _)
section
variable {n : Nat} {p : List Int} {x : Int}
theorem Pm.itr_iff (h : Pm n p) (hx : 0 ≤ x ∧ x < n) {k : Nat} (h1 : 1 ≤ k) (hk : k ≤ Mem.per n p x) : Mem.itr p x k = x ↔ k = Mem.per n p x := by
  obtain ⟨_, _, h2, h3⟩ := h.per hx
  constructor
  · intro e
    rcases Nat.lt_or_ge k (Mem.per n p x) with hl | hl
    · exact absurd e (h3 k h1 hl)
    · omega
  · rintro rfl; exact h2
theorem Pm.per_dvd (h : Pm n p) (hx : 0 ≤ x ∧ x < n) : Mem.per n p x ∣ ord n p := by
  obtain ⟨c, hc, hm⟩ := h.cyc_all n (Nat.le_refl _) x.toNat (by omega)
  rw [show ((x.toNat : Nat) : Int) = x by omega] at hm
  have hl := ((h.cyc_per hc).1 x hm).2.2
  rw [← hl]
  exact dvd_lcms (List.mem_map.2 ⟨c, hc, rfl⟩)
theorem Pm.per_next (h : Pm n p) (hx : 0 ≤ x ∧ x < n) (k : Nat) : Mem.per n p (Mem.itr p x k) = Mem.per n p x := h.per_same hx (itr_rch p x k)
end
theorem idl_snoc (n : Nat) : idl (n + 1) = idl n ++ [(n : Int)] := by simp [idl, List.range_succ]
theorem emod_dvd {a b : Nat} (h : b ∣ a) : (a : Int) % (b : Int) = 0 := by
  obtain ⟨c, rfl⟩ := h
  rw [Int.natCast_mul]
  exact Int.mul_emod_right _ _
end Go.Mem
