/- Plain words on lists: the group that permutations make, element by element. No program in sight. -/
import Derived.Test.YtkknhcpjiehgiaaDoorPB
import Derived.Test.YtkknhcpjiehgiaaDoorP52
namespace Go.Mem
set_option linter.unusedVariables false
/-- an element more, if it is new -/
def mnAdd (E : List (List Int)) (q : List Int) : List (List Int) := if q ∈ E then E else E ++ [q]
/-- behind p: the first k of the permutations A -/
def mnRow (A : List (List Int)) (p : List Int) (E : List (List Int)) : Nat → List (List Int)
  | 0 => E
  | k + 1 => mnAdd (mnRow A p E k) (aft p (gr A k))
/-- what is known when the first i elements have been taken -/
def mnTo (n : Nat) (A : List (List Int)) : Nat → List (List Int)
  | 0 => [idl n]
  | i + 1 => if i < (mnTo n A i).length then mnRow A (gr (mnTo n A i) i) (mnTo n A i) A.length else mnTo n A i
section
variable {n : Nat} {A E : List (List Int)} {p q : List Int}
theorem mnAdd_in (h : q ∈ E) : mnAdd E q = E := if_pos h
theorem mnAdd_new (h : q ∉ E) : mnAdd E q = E ++ [q] := if_neg h
theorem mnAdd_len (E : List (List Int)) (q : List Int) : E.length ≤ (mnAdd E q).length ∧ (mnAdd E q).length ≤ E.length + 1 := by
  unfold mnAdd; split <;> simp
theorem mnAdd_mem (E : List (List Int)) (q a : List Int) : a ∈ mnAdd E q ↔ a = q ∨ a ∈ E := by
  unfold mnAdd
  split
  · rename_i h
    constructor
    · exact .inr
    · rintro (rfl | h2)
      · exact h
      · exact h2
  · simp [or_comm]
theorem mnAdd_nodup (h : E.Nodup) : (mnAdd E q).Nodup := by
  unfold mnAdd
  split
  · exact h
  · rename_i hq
    rw [List.nodup_append]
    exact ⟨h, by simp, fun a ha b hb => by simp at hb; subst hb; intro e; subst e; exact hq ha⟩
theorem mnAdd_pre {i : Nat} (hi : i < E.length) : gr (mnAdd E q) i = gr E i := by
  unfold mnAdd
  split
  · rfl
  · simp [gr, List.getD, List.getElem?_append_left hi]
theorem mnRow_mono (A : List (List Int)) (p : List Int) (E : List (List Int)) (k : Nat) : ∀ d : Nat, (mnRow A p E k).length ≤ (mnRow A p E (k + d)).length
  | 0 => Nat.le_refl _
  | d + 1 => Nat.le_trans (mnRow_mono A p E k d) (mnAdd_len _ _).1
theorem mnRow_le (A : List (List Int)) (p : List Int) (E : List (List Int)) : ∀ k : Nat, E.length ≤ (mnRow A p E k).length ∧ (mnRow A p E k).length ≤ E.length + k
  | 0 => ⟨Nat.le_refl _, Nat.le_refl _⟩
  | k + 1 => by
    have h := mnRow_le A p E k
    have h2 := mnAdd_len (mnRow A p E k) (aft p (gr A k))
    unfold mnRow
    omega
theorem mnRow_pre (A : List (List Int)) (p : List Int) {E : List (List Int)} {i : Nat} (hi : i < E.length) : ∀ k : Nat, gr (mnRow A p E k) i = gr E i
  | 0 => rfl
  | k + 1 => by
    have h := (mnRow_le A p E k).1
    unfold mnRow
    rw [mnAdd_pre (by omega), mnRow_pre A p hi k]
theorem mnTo_succ {i : Nat} (h : i < (mnTo n A i).length) : mnTo n A (i + 1) = mnRow A (gr (mnTo n A i) i) (mnTo n A i) A.length := if_pos h
theorem mnTo_stop {i : Nat} (h : ¬ i < (mnTo n A i).length) : mnTo n A (i + 1) = mnTo n A i := if_neg h
theorem mnTo_step (n : Nat) (A : List (List Int)) (i : Nat) : (mnTo n A i).length ≤ (mnTo n A (i + 1)).length := by
  by_cases h : i < (mnTo n A i).length
  · rw [mnTo_succ h]; exact (mnRow_le _ _ _ _).1
  · rw [mnTo_stop h]; exact Nat.le_refl _
theorem mnTo_mono (n : Nat) (A : List (List Int)) (i : Nat) : ∀ d : Nat, (mnTo n A i).length ≤ (mnTo n A (i + d)).length
  | 0 => Nat.le_refl _
  | d + 1 => Nat.le_trans (mnTo_mono n A i d) (mnTo_step n A (i + d))
theorem mnTo_still {i : Nat} (h : ¬ i < (mnTo n A i).length) : ∀ d : Nat, mnTo n A (i + d) = mnTo n A i
  | 0 => rfl
  | d + 1 => by
    have e := mnTo_still h d
    rw [show i + (d + 1) = i + d + 1 by omega, mnTo_stop (by rw [e]; omega), e]
/-- what each element is -/
def IsEl (n : Nat) (p : List Int) : Prop := p.length = n ∧ ∀ x ∈ p, 0 ≤ x ∧ x < n
theorem isEl_idl (n : Nat) : IsEl n (idl n) := ⟨by simp, fun x hx => by
  unfold idl at hx
  obtain ⟨i, hi, rfl⟩ := List.mem_map.1 hx
  have := List.mem_range.1 hi
  omega⟩
theorem isEl_aft (hp : IsEl n p) (hq : IsEl n q) : IsEl n (aft p q) := ⟨by simp [hp.1], fun x hx => by
  obtain ⟨y, hy, rfl⟩ := List.mem_map.1 hx
  have := hp.2 y hy
  exact hq.2 _ (gi_mem (by omega) (by rw [hq.1]; omega))⟩
theorem mnRow_el (hA : ∀ m ∈ A, IsEl n m) (hp : IsEl n p) (hE : ∀ m ∈ E, IsEl n m) : ∀ k : Nat, k ≤ A.length → ∀ m ∈ mnRow A p E k, IsEl n m
  | 0, _ => hE
  | k + 1, hk => fun m hm => by
    unfold mnRow at hm
    rcases (mnAdd_mem _ _ _).1 hm with rfl | h
    · exact isEl_aft hp (hA _ (gr_in (by omega)))
    · exact mnRow_el hA hp hE k (by omega) m h
theorem mnTo_el (hA : ∀ m ∈ A, IsEl n m) : ∀ i : Nat, ∀ m ∈ mnTo n A i, IsEl n m
  | 0 => fun m hm => by simp [mnTo] at hm; subst hm; exact isEl_idl n
  | i + 1 => fun m hm => by
    by_cases h : i < (mnTo n A i).length
    · rw [mnTo_succ h] at hm
      exact mnRow_el hA (mnTo_el hA i _ (gr_in h)) (mnTo_el hA i) _ (Nat.le_refl _) m hm
    · rw [mnTo_stop h] at hm
      exact mnTo_el hA i m hm
/-- all elements (a name that nothing unfolds) -/
noncomputable def mnAll (n : Nat) (A : List (List Int)) : List (List Int) := Classical.choose (⟨mnTo n A 1001, rfl⟩ : ∃ O, O = mnTo n A 1001)
theorem mnAll_eq (n : Nat) (A : List (List Int)) : mnAll n A = mnTo n A 1001 := Classical.choose_spec (⟨mnTo n A 1001, rfl⟩ : ∃ O, O = mnTo n A 1001)
/-- the group has at most 1000 elements -/
def mnOk (n : Nat) (A : List (List Int)) : Prop := (mnAll n A).length ≤ 1000
noncomputable instance (n : Nat) (A : List (List Int)) : Decidable (mnOk n A) := Classical.propDecidable _
theorem mn_much {i : Nat} (hi : i ≤ 1001) (h : 1000 < (mnTo n A i).length) : ¬ mnOk n A := fun e => by
  have := mnTo_mono n A i (1001 - i)
  rw [show i + (1001 - i) = 1001 by omega, ← mnAll_eq] at this
  unfold mnOk at e
  omega
theorem mn_much_row {i k : Nat} (hi : i ≤ 1000) (hlt : i < (mnTo n A i).length) (hk : k ≤ A.length) (h : 1000 < (mnRow A (gr (mnTo n A i) i) (mnTo n A i) k).length) : ¬ mnOk n A := by
  refine mn_much (i := i + 1) (by omega) ?_
  rw [mnTo_succ hlt]
  have := mnRow_mono A (gr (mnTo n A i) i) (mnTo n A i) k (A.length - k)
  rw [show k + (A.length - k) = A.length by omega] at this
  omega
theorem mn_end {i : Nat} (hi : i = (mnTo n A i).length) (h : (mnTo n A i).length ≤ 1000) : mnOk n A ∧ mnAll n A = mnTo n A i := by
  have e := mnTo_still (n := n) (A := A) (i := i) (by omega) (1001 - i)
  rw [show i + (1001 - i) = 1001 by omega, ← mnAll_eq] at e
  exact ⟨by unfold mnOk; rw [e]; omega, e⟩
/-- the order of the group, and the code -/
noncomputable def moN (ms : List (List Int)) : Int := if IsMan ms ∧ mnOk (nf ms) ms then ((mnAll (nf ms) ms).length : Int) else 0
noncomputable def moC (ms : List (List Int)) : Int := if IsMan ms then (if mnOk (nf ms) ms then 0 else 3) else 1
theorem mo_1 {ms : List (List Int)} (h : ¬ IsMan ms) : moN ms = 0 ∧ moC ms = 1 := ⟨if_neg fun e => h e.1, if_neg h⟩
theorem mo_2 {ms : List (List Int)} (hm : IsMan ms) (h : ¬ mnOk (nf ms) ms) : moN ms = 0 ∧ moC ms = 3 := ⟨if_neg fun e => h e.2, by unfold moC; rw [if_pos hm, if_neg h]⟩
theorem mo_3 {ms : List (List Int)} (hm : IsMan ms) (h : mnOk (nf ms) ms) : moN ms = ((mnAll (nf ms) ms).length : Int) ∧ moC ms = 0 := ⟨if_pos ⟨hm, h⟩, by unfold moC; rw [if_pos hm, if_pos h]⟩
end
/-- a sorted list with the same elements -/
structure Srt (S E : List (List Int)) : Prop where
  up : S.Pairwise (fun a b => lessL a b = true)
  mem : ∀ a, a ∈ S ↔ a ∈ E
  len : S.length = E.length
theorem insF_len {S : List (List Int)} {x : List Int} (h : x ∉ S) : (insF lessL S x).length = S.length + 1 := by
  induction S with
  | nil => simp [insF]
  | cons a S ih =>
    have hne : a ≠ x := fun e => h (by rw [e]; exact List.mem_cons_self)
    have hni : x ∉ S := fun e => h (List.mem_cons_of_mem _ e)
    simp only [insF]
    by_cases h1 : lessL a x = true
    · rw [if_pos h1]; simp [ih hni]
    · rw [if_neg h1, if_neg hne]; simp
theorem Srt.one (x : List Int) : Srt [x] [x] := ⟨by simp, fun a => Iff.rfl, rfl⟩
theorem Srt.add {S E : List (List Int)} (h : Srt S E) {q : List Int} (hq : q ∉ S) : Srt (insF lessL S q) (E ++ [q]) :=
  ⟨insF_sorted lessL_sto _ _ h.up, fun a => by rw [insF_mem, h.mem]; simp [or_comm], by rw [insF_len hq, h.len]; simp⟩
end Go.Mem
