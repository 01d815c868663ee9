/- Plain words: strict total orders, what is put into a sorted list. -/
import Derived.Test.YtkknhcpjiehgiaaDoorP23
namespace Go.Mem
set_option linter.unusedVariables false
set_option linter.unusedSectionVars false
/-- lt is a strict total order -/
structure Sto {α : Type} (lt : α → α → Bool) : Prop where
  irr : ∀ a, lt a a = false
  tr : ∀ a b c, lt a b = true → lt b c = true → lt a c = true
  tri : ∀ a b, a ≠ b → lt a b = true ∨ lt b a = true
section
variable {α : Type} [DecidableEq α] {lt : α → α → Bool}
theorem Sto.asym (h : Sto lt) {a b : α} (hab : lt a b = true) : lt b a = false := by
  cases hb : lt b a with
  | false => rfl
  | true => have := h.tr a b a hab hb; rw [h.irr] at this; cases this
theorem Sto.ne (h : Sto lt) {a b : α} (hab : lt a b = true) : a ≠ b := fun e => by subst e; rw [h.irr] at hab; cases hab
theorem lexL_sto (h : Sto lt) : Sto (lexL lt) := by
  refine ⟨fun a => lexL_self a, ?_, ?_⟩
  · intro a
    induction a with
    | nil =>
      intro b c h1 h2
      cases b with
      | nil => simp [lexL] at h1
      | cons y ys =>
        cases c with
        | nil => simp [lexL] at h2
        | cons z zs => simp [lexL]
    | cons x xs ih =>
      intro b c h1 h2
      cases b with
      | nil => simp [lexL] at h1
      | cons y ys =>
        cases c with
        | nil => simp [lexL] at h2
        | cons z zs =>
          simp only [lexL] at h1 h2 ⊢
          by_cases e1 : x = y
          · subst e1
            rw [if_pos rfl] at h1
            by_cases e2 : x = z
            · subst e2
              rw [if_pos rfl] at h2 ⊢
              exact ih _ _ h1 h2
            · rw [if_neg e2] at h2 ⊢; exact h2
          · rw [if_neg e1] at h1
            by_cases e2 : y = z
            · subst e2
              rw [if_neg e1]; exact h1
            · rw [if_neg e2] at h2
              have h3 := h.tr _ _ _ h1 h2
              rw [if_neg (h.ne h3)]; exact h3
  · intro a
    induction a with
    | nil =>
      intro b hne
      cases b with
      | nil => exact absurd rfl hne
      | cons y ys => simp [lexL]
    | cons x xs ih =>
      intro b hne
      cases b with
      | nil => simp [lexL]
      | cons y ys =>
        simp only [lexL]
        by_cases e1 : x = y
        · subst e1
          rw [if_pos rfl, if_pos rfl]
          exact ih ys fun e => hne (by rw [e])
        · rw [if_neg e1, if_neg fun e => e1 e.symm]
          exact h.tri _ _ e1
/-- x put into a sorted list, if it is not there -/
def insF (lt : α → α → Bool) : List α → α → List α
  | [], x => [x]
  | y :: L, x => if lt y x then y :: insF lt L x else if y = x then y :: L else x :: y :: L
theorem insF_mem (L : List α) (x a : α) : a ∈ insF lt L x ↔ a = x ∨ a ∈ L := by
  induction L with
  | nil => simp [insF]
  | cons y L ih =>
    simp only [insF]
    by_cases h1 : lt y x = true
    · rw [if_pos h1, List.mem_cons, ih, List.mem_cons]
      constructor
      · rintro (h | h | h)
        · exact .inr (.inl h)
        · exact .inl h
        · exact .inr (.inr h)
      · rintro (h | h | h)
        · exact .inr (.inl h)
        · exact .inl h
        · exact .inr (.inr h)
    · rw [if_neg h1]
      by_cases h2 : y = x
      · rw [if_pos h2]
        subst h2
        constructor
        · intro h; exact .inr h
        · rintro (rfl | h)
          · exact List.mem_cons_self
          · exact h
      · rw [if_neg h2]; simp
theorem insF_sorted (h : Sto lt) (L : List α) (x : α) (hs : L.Pairwise (fun a b => lt a b = true)) : (insF lt L x).Pairwise (fun a b => lt a b = true) := by
  induction L with
  | nil => simp [insF]
  | cons y L ih =>
    obtain ⟨h1, h2⟩ := List.pairwise_cons.1 hs
    simp only [insF]
    by_cases hy : lt y x = true
    · rw [if_pos hy]
      refine List.pairwise_cons.2 ⟨fun a ha => ?_, ih h2⟩
      rcases (insF_mem L x a).1 ha with rfl | ha
      · exact hy
      · exact h1 a ha
    · rw [if_neg hy]
      by_cases e : y = x
      · rw [if_pos e]; exact hs
      · rw [if_neg e]
        have hxy : lt x y = true := by
          rcases h.tri y x e with h3 | h3
          · exact absurd h3 hy
          · exact h3
        refine List.pairwise_cons.2 ⟨fun a ha => ?_, hs⟩
        rcases List.mem_cons.1 ha with rfl | ha
        · exact hxy
        · exact h.tr _ _ _ hxy (h1 a ha)
/-- where it comes to stand -/
theorem insF_at (L : List α) (x : α) (at' : Nat) (hl : at' ≤ L.length) (h1 : ∀ i (hi : i < L.length), i < at' → lt L[i] x = true) (h2 : ∀ (hi : at' < L.length), lt L[at'] x = false) :
    insF lt L x = if (∃ hi : at' < L.length, L[at'] = x) then L else L.take at' ++ x :: L.drop at' := by
  induction L generalizing at' with
  | nil => simp [insF]
  | cons y L ih =>
    cases at' with
    | zero =>
      have := h2 (by simp)
      simp only [List.getElem_cons_zero] at this
      simp only [insF, this]
      by_cases e : y = x <;> simp [e]
    | succ k =>
      have hy := h1 0 (by simp) (by omega)
      simp only [List.getElem_cons_zero] at hy
      simp only [insF]
      rw [if_pos hy, ih k (by simpa using hl) (fun i hi hik => h1 (i + 1) (Nat.succ_lt_succ hi) (by omega)) (fun hi => h2 (Nat.succ_lt_succ hi))]
      by_cases e : ∃ hi : k < L.length, L[k] = x
      · rw [if_pos e, if_pos (by obtain ⟨a, b⟩ := e; exact ⟨by simpa using a, by simpa using b⟩)]
      · rw [if_neg e, if_neg (by rintro ⟨a, b⟩; exact e ⟨by simpa using a, by simpa using b⟩)]
        simp
end
theorem ltI_sto : Sto ltI := ⟨fun a => by simp [ltI], fun a b c h1 h2 => by simp [ltI] at *; omega, fun a b h => by simp [ltI]; omega⟩
theorem lessL_sto : Sto lessL := lexL_sto ltI_sto
end Go.Mem
