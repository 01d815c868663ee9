/- Plain words on lists: orbits, in the order in which they are reached. No program in sight. -/
import Derived.Test.YtmfegkjjfmmoaaaP1
namespace Go.Mem

/-- A list of maps of n points into themselves. -/
def Syst (n : Nat) (ms : List (List Int)) : Prop := ∀ m ∈ ms, m.length = n ∧ ∀ x ∈ m, 0 ≤ x ∧ x < n
def visit (o : List Int) (x : Int) : List Int := if x ∈ o then o else o ++ [x]
def visits (o xs : List Int) : List Int := xs.foldl visit o
def images (ms : List (List Int)) (x : Int) : List Int := ms.map (fun m => gi m x)
def bfs (ms : List (List Int)) (p : Int) : Nat → List Int
  | 0 => [p]
  | i + 1 => if i < (bfs ms p i).length then visits (bfs ms p i) (images ms (gi (bfs ms p i) i)) else bfs ms p i
/-- The points to which the maps lead p, in the order in which they are reached. -/
def orbit (ms : List (List Int)) (p : Int) : List Int := bfs ms p 1000

structure Orb (n : Nat) (seen : List Bool) (o : List Int) : Prop where
  len : n ≤ seen.length
  nodup : o.Nodup
  rng : ∀ x ∈ o, 0 ≤ x ∧ x < n
  mark : ∀ j : Int, 0 ≤ j → j < n → (gb seen j = true ↔ j ∈ o)

theorem nodup_le {n : Nat} {o : List Int} (hn : o.Nodup) (hr : ∀ x ∈ o, 0 ≤ x ∧ x < n) : o.length ≤ n := by
  have h := List.Nodup.length_le_of_subset (l₂ := (List.range n).map (fun i : Nat => (i : Int))) hn (by
    intro x hx
    have := hr x hx
    exact List.mem_map.2 ⟨x.toNat, List.mem_range.2 (by omega), by omega⟩)
  simpa using h
theorem Orb.le {n : Nat} {seen : List Bool} {o : List Int} (h : Orb n seen o) : o.length ≤ n := nodup_le h.nodup h.rng

theorem visit_prefix (o : List Int) (x : Int) : ∃ e, visit o x = o ++ e := by
  unfold visit
  split
  · exact ⟨[], by simp⟩
  · exact ⟨[x], rfl⟩
theorem visits_prefix : ∀ (xs o : List Int), ∃ e, visits o xs = o ++ e
  | [], o => ⟨[], by simp [visits]⟩
  | x :: xs, o => by
    obtain ⟨e1, h1⟩ := visit_prefix o x
    obtain ⟨e2, h2⟩ := visits_prefix xs (visit o x)
    refine ⟨e1 ++ e2, ?_⟩
    show visits (visit o x) xs = _
    rw [h2, h1, List.append_assoc]
theorem gi_append_left {o e : List Int} {j : Int} (h0 : 0 ≤ j) (hj : j < o.length) : gi (o ++ e) j = gi o j := by
  have : j.toNat < o.length := by omega
  simp [gi, List.getD, List.getElem?_append, this]
theorem gi_visits {o xs : List Int} {j : Int} (h0 : 0 ≤ j) (hj : j < o.length) : gi (visits o xs) j = gi o j := by
  obtain ⟨e, h⟩ := visits_prefix xs o
  rw [h]; exact gi_append_left h0 hj
theorem length_visits (o xs : List Int) : o.length ≤ (visits o xs).length := by
  obtain ⟨e, h⟩ := visits_prefix xs o
  rw [h]; simp
theorem visits_take_succ {o xs : List Int} {j : Nat} (h : j < xs.length) : visits o (xs.take (j + 1)) = visit (visits o (xs.take j)) (gi xs j) := by
  rw [take_gi h]; simp [visits]
theorem visits_take_all {o xs : List Int} {j : Nat} (h : xs.length ≤ j) : visits o (xs.take j) = visits o xs := by rw [List.take_of_length_le h]
theorem gi_images {ms : List (List Int)} {x : Int} {j : Nat} (h : j < ms.length) : gi (images ms x) j = gi (gr ms j) x := by
  simp [images, gi, gr, List.getD, h]
theorem length_images (ms : List (List Int)) (x : Int) : (images ms x).length = ms.length := by simp [images]

theorem Orb.start {n : Nat} {p : Int} {m : Nat} (hp : 0 ≤ p ∧ p < n) (hm : n ≤ m) : Orb n (setb (List.replicate m false) p true) [p] := by
  refine ⟨by simpa using hm, by simp, by simpa using hp, fun j h0 hj => ?_⟩
  rw [gb_setb _ _ _ _ hp.1 (by simp; omega) h0]
  by_cases e : j = p
  · simp [e]
  · have hlt : j.toNat < m := by omega
    simp [e, gb, List.getD, hlt]
theorem Orb.hit {n : Nat} {seen : List Bool} {o : List Int} {x : Int} (h : Orb n seen o) (hx : 0 ≤ x ∧ x < n) (hs : gb seen x = true) : visit o x = o := by
  unfold visit
  rw [if_pos ((h.mark x hx.1 hx.2).1 hs)]
theorem Orb.miss {n : Nat} {seen : List Bool} {o : List Int} {x : Int} (h : Orb n seen o) (hx : 0 ≤ x ∧ x < n) (hs : gb seen x = false) : visit o x = o ++ [x] ∧ Orb n (setb seen x true) (o ++ [x]) := by
  have hn : x ∉ o := fun hm => by have := (h.mark x hx.1 hx.2).2 hm; rw [hs] at this; cases this
  have hlen := h.len
  refine ⟨by unfold visit; rw [if_neg hn], ⟨by simpa using hlen, ?_, ?_, fun j h0 hj => ?_⟩⟩
  · rw [List.nodup_append]
    refine ⟨h.nodup, by simp, ?_⟩
    intro a ha b hb
    simp at hb
    subst hb
    intro e
    subst e
    exact hn ha
  · intro y hy
    rcases List.mem_append.1 hy with hy | hy
    · exact h.rng y hy
    · simp at hy; subst hy; exact hx
  · rw [gb_setb _ _ _ _ hx.1 (by omega) h0]
    by_cases e : j = x
    · simp [e]
    · simp [e, h.mark j h0 hj]

theorem Syst.row {n : Nat} {ms : List (List Int)} (h : Syst n ms) {j : Int} (h0 : 0 ≤ j) (hj : j < ms.length) : (gr ms j).length = n ∧ ∀ x ∈ gr ms j, 0 ≤ x ∧ x < n := by
  have hlt : j.toNat < ms.length := by omega
  have : gr ms j ∈ ms := by simp [gr, List.getD, hlt]
  exact h _ this
theorem Syst.at {n : Nat} {ms : List (List Int)} (h : Syst n ms) {j x : Int} (h0 : 0 ≤ j) (hj : j < ms.length) (hx : 0 ≤ x ∧ x < n) : 0 ≤ gi (gr ms j) x ∧ gi (gr ms j) x < n := by
  have hr := h.row h0 hj
  exact hr.2 _ (gi_mem hx.1 (by omega))

theorem bfs_stable {ms : List (List Int)} {p : Int} {i : Nat} (h : (bfs ms p i).length ≤ i) : ∀ d, bfs ms p (i + d) = bfs ms p i
  | 0 => rfl
  | d + 1 => by
    have ih := bfs_stable h d
    show (if i + d < (bfs ms p (i + d)).length then _ else bfs ms p (i + d)) = _
    rw [ih, if_neg (by omega)]
theorem orbit_eq {ms : List (List Int)} {p : Int} {i : Nat} (h : (bfs ms p i).length ≤ i) (hi : i ≤ 1000) : orbit ms p = bfs ms p i := by
  have := bfs_stable h (1000 - i)
  rw [show i + (1000 - i) = 1000 from by omega] at this
  exact this
theorem bfs_succ {ms : List (List Int)} {p : Int} {i : Nat} (h : i < (bfs ms p i).length) : bfs ms p (i + 1) = visits (bfs ms p i) (images ms (gi (bfs ms p i) i)) := by
  show (if i < (bfs ms p i).length then _ else _) = _
  rw [if_pos h]
end Go.Mem
