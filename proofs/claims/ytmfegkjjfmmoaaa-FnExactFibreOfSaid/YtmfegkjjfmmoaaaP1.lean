/- Plain words on lists: ranges, permutations, free involutions. No program in sight. -/
import Derived.Test.YtmfegkjjfmmoaaaLs
namespace Go.Mem
def inB (n lo hi : Int) : Bool := decide (lo ≤ n) && decide (n ≤ hi)
theorem inB_true {n lo hi : Int} (h : inB n lo hi = true) : lo ≤ n ∧ n ≤ hi := by simpa [inB] using h
theorem inB_false {n lo hi : Int} (h : inB n lo hi = false) : ¬ (lo ≤ n ∧ n ≤ hi) := by intro h'; simp [inB, h'.1, h'.2] at h

/-- xs is a permutation of at most 400 points -/
def IsPerm (xs : List Int) : Prop := xs.length ≤ 400 ∧ (∀ x ∈ xs, 0 ≤ x ∧ x < xs.length) ∧ xs.Nodup
instance (xs : List Int) : Decidable (IsPerm xs) := by unfold IsPerm; infer_instance
/-- The first i numbers of xs are in range, no two alike, and bs marks them. -/
structure Seen (xs : List Int) (i : Nat) (bs : List Bool) : Prop where
  len : bs.length = xs.length
  rng : ∀ x ∈ xs.take i, 0 ≤ x ∧ x < xs.length
  nodup : (xs.take i).Nodup
  mark : ∀ j : Int, 0 ≤ j → j < xs.length → (gb bs j = true ↔ j ∈ xs.take i)

theorem gb_setb (bs : List Bool) (j k : Int) (b : Bool) (h0 : 0 ≤ j) (hj : j < bs.length) (hk : 0 ≤ k) : gb (setb bs j b) k = if k = j then b else gb bs k := by
  have hlt : j.toNat < bs.length := by omega
  simp only [gb, setb, List.getD, List.getElem?_set]
  by_cases h : k = j
  · subst h; simp [hlt]
  · have : ¬ j.toNat = k.toNat := by omega
    simp [h, this]
theorem gi_mem {xs : List Int} {j : Int} (h0 : 0 ≤ j) (hj : j < xs.length) : gi xs j ∈ xs := by
  have hlt : j.toNat < xs.length := by omega
  simp [gi, List.getD, hlt]
theorem take_gi {xs : List Int} {i : Nat} (h : i < xs.length) : xs.take (i + 1) = xs.take i ++ [gi xs i] := by
  rw [List.take_succ_eq_append_getElem h]
  simp [gi, List.getD, h]
theorem Seen.start (xs : List Int) (m : Nat) (hm : m = xs.length) : Seen xs 0 (List.replicate m false) := by
  subst hm
  refine ⟨by simp, by simp, by simp, fun j h0 hj => ?_⟩
  have hlt : j.toNat < xs.length := by omega
  simp [gb, List.getD, hlt]
theorem Seen.step {xs : List Int} {i : Nat} {bs : List Bool} (h : Seen xs i bs) (hi : i < xs.length) (hr : inB (gi xs i) 0 (xs.length - 1) = true) (hn : gb bs (gi xs i) = false) :
    Seen xs (i + 1) (setb bs (gi xs i) true) := by
  have hr := inB_true hr
  have hnm : gi xs i ∉ xs.take i := fun hm => by have := (h.mark _ hr.1 (by omega)).2 hm; rw [hn] at this; cases this
  refine ⟨by simp [h.len], ?_, ?_, fun j h0 hj => ?_⟩
  · intro x hx
    rw [take_gi hi, List.mem_append] at hx
    rcases hx with hx | hx
    · exact h.rng x hx
    · simp at hx; subst hx; omega
  · rw [take_gi hi, List.nodup_append]
    refine ⟨h.nodup, by simp, ?_⟩
    intro a ha b hb
    simp at hb
    subst hb
    intro e
    subst e
    exact hnm ha
  · rw [gb_setb bs _ j true hr.1 (by rw [h.len]; omega) h0, take_gi hi, List.mem_append]
    by_cases e : j = gi xs i
    · simp [e]
    · simp [e, h.mark j h0 hj]
theorem Seen.done {xs : List Int} {bs : List Bool} (h : Seen xs xs.length bs) (h4 : ¬ (400 : Int) < xs.length) : decide (IsPerm xs) = true := by
  have hr := h.rng
  have hn := h.nodup
  simp only [List.take_length] at hr hn
  exact decide_eq_true ⟨by omega, hr, hn⟩
theorem Seen.bad_range {xs : List Int} {i : Nat} (hi : i < xs.length) (hr : inB (gi xs i) 0 (xs.length - 1) = false) : decide (IsPerm xs) = false := by
  have hr := inB_false hr
  refine decide_eq_false fun h => hr ?_
  have := h.2.1 _ (gi_mem (xs := xs) (j := i) (by omega) (by omega))
  omega
theorem Seen.bad_twice {xs : List Int} {i : Nat} {bs : List Bool} (h : Seen xs i bs) (hi : i < xs.length) (hr : inB (gi xs i) 0 (xs.length - 1) = true) (hn : gb bs (gi xs i) = true) : decide (IsPerm xs) = false := by
  have hr := inB_true hr
  have hm := (h.mark _ hr.1 (by omega)).1 hn
  refine decide_eq_false fun hp => ?_
  have hnd := hp.2.2
  have : (xs.take (i + 1)).Nodup := hnd.sublist (List.take_sublist _ _)
  rw [take_gi hi, List.nodup_append] at this
  exact this.2.2 _ hm _ (by simp) rfl


/-- No point stays, and done twice every point does. -/
def IsFree (xs : List Int) : Prop := ∀ i : Nat, i < xs.length → gi xs i ≠ i ∧ gi xs (gi xs i) = i
instance (xs : List Int) : Decidable (IsFree xs) := by unfold IsFree; infer_instance
theorem IsPerm.gi {xs : List Int} (h : IsPerm xs) {j : Int} (h0 : 0 ≤ j) (hj : j < xs.length) : 0 ≤ Mem.gi xs j ∧ Mem.gi xs j < xs.length := h.2.1 _ (gi_mem h0 hj)
end Go.Mem
