/- Plain words on lists: coverings have a flag for each flag. No program in sight. -/
import Derived.Test.YtmfegkjjfmmoaaaP7
namespace Go.Mem
section
variable {ms ks : List (List Int)} {flag : Int} {n : Nat}
theorem mapStep_len {s : MapSt} {a : Int × Int} (h : ∀ o r, s = some (o, r) → o.length = n) : ∀ o r, mapStep s a = some (o, r) → o.length = n := by
  intro o r
  unfold mapStep
  cases s with
  | none => simp
  | some q =>
    obtain ⟨o', r'⟩ := q
    have h' := h o' r' rfl
    simp only
    split
    · intro e; simp at e; rw [← e.1]; simpa using h'
    · split
      · intro e; simp at e; rw [← e.1]; exact h'
      · simp
theorem fold_len (l : List (Int × Int)) : ∀ {s : MapSt}, (∀ o r, s = some (o, r) → o.length = n) → ∀ o r, l.foldl mapStep s = some (o, r) → o.length = n := by
  induction l with
  | nil => intro s h; exact h
  | cons a l ih => intro s h; exact ih (mapStep_len h)
theorem mbfs_len : ∀ (i : Nat) o r, mbfs ms ks flag i = some (o, r) → o.length = nf ms
  | 0, o, r, h => by
    simp only [mbfs, Option.some.injEq, Prod.mk.injEq] at h
    rw [← h.1]; simp
  | i + 1, o, r, h => by
    have ih := mbfs_len i
    unfold mbfs at h
    split at h
    · simp at h
    · rename_i o' r' e
      have h' := ih o' r' e
      split at h
      · exact fold_len _ (fun o r e => by simp at e; rw [← e.1]; exact h') o r h
      · simp at h; rw [← h.1]; exact h'
theorem mapTo_len {p : List Int} (h : mapTo ms ks flag = some p) : p.length = nf ms := by
  unfold mapTo at h
  rw [Option.map_eq_some_iff] at h
  obtain ⟨⟨o, r⟩, h1, h2⟩ := h
  have := mbfs_len _ o r h1
  rw [← h2]; exact this
theorem mapT_len {p : List Int} (h : mapT ms ks flag = some p) : p.length = nf ms := by
  unfold mapT at h
  split at h
  · exact mapTo_len h
  · simp at h
theorem covers_mem {p : List Int} (h : p ∈ covers ms ks n) : ∃ f : Nat, f < n ∧ mapT ms ks f = some p := by
  unfold covers at h
  obtain ⟨f, hf, e⟩ := List.mem_filterMap.1 h
  exact ⟨f, List.mem_range.1 hf, e⟩
theorem covers_ne (hm : IsMan ms) : ∀ xs ∈ covers ms ks n, xs ≠ [] := by
  intro xs hx e
  obtain ⟨f, _, hf⟩ := covers_mem hx
  have := mapT_len hf
  have := hm.m0.f2
  subst e
  simp at this
  omega
end
end Go.Mem
