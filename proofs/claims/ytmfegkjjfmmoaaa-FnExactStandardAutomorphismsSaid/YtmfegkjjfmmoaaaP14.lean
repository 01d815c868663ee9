/- Plain words on lists: the same number laid at many places; the least number above all of a list. No program in sight. -/
import Derived.Test.YtmfegkjjfmmoaaaP13
namespace Go.Mem
def setAll (L : List Int) (c : Int) (xs : List Int) : List Int := xs.foldl (fun L x => seti L x c) L
@[simp] theorem length_setAll (c : Int) : ∀ (xs L : List Int), (setAll L c xs).length = L.length
  | [], _ => rfl
  | x :: xs, L => by
    show (setAll (seti L x c) c xs).length = _
    rw [length_setAll c xs]; simp
theorem setAll_take_succ {L : List Int} {c : Int} {xs : List Int} {k : Nat} (h : k < xs.length) : setAll L c (xs.take (k + 1)) = seti (setAll L c (xs.take k)) (gi xs k) c := by
  rw [take_gi h]
  simp [setAll, List.foldl_append]
theorem gi_setAll {n : Nat} (c : Int) : ∀ (xs L : List Int), L.length = n → (∀ x ∈ xs, 0 ≤ x ∧ x < n) → ∀ y : Int, 0 ≤ y → gi (setAll L c xs) y = if y ∈ xs then c else gi L y
  | [], L, _, _, y, _ => by simp [setAll]
  | x :: xs, L, hl, h, y, h0 => by
    have hx := h x (by simp)
    show gi (setAll (seti L x c) c xs) y = _
    rw [gi_setAll c xs (seti L x c) (by simpa using hl) (fun z hz => h z (List.mem_cons_of_mem _ hz)) y h0, gi_seti _ _ _ _ hx.1 (by omega) h0]
    by_cases h1 : y ∈ xs
    · rw [if_pos h1, if_pos (List.mem_cons_of_mem _ h1)]
    · rw [if_neg h1]
      by_cases h2 : y = x
      · rw [if_pos h2, if_pos (by rw [h2]; simp)]
      · rw [if_neg h2, if_neg (by simp [h1, h2])]
theorem setAll_orbit {n : Nat} {ms : List (List Int)} {L : List Int} {c i : Int} (hs : Syst n ms) (hi : 0 ≤ i ∧ i < n) (hn : n ≤ 1000) (hl : L.length = n) : setAll L c (orbit ms i) = lab1 ms L c i := by
  have ho : ∀ x ∈ orbit ms i, 0 ≤ x ∧ x < n := fun x hx => ((mem_orbit hs hi hn).1 hx).rng hs hi
  refine list_ext_gi (by rw [length_setAll, length_lab1]) fun x h0 hx => ?_
  rw [length_setAll] at hx
  rw [gi_setAll c _ _ hl ho x h0, gi_lab1 h0 hx]

/-- the least number that is above all (0, if there are none) -/
def gre (xs : List Int) : Int := xs.foldl (fun m x => if m ≤ x then x + 1 else m) 0
theorem gre_take_succ {xs : List Int} {k : Nat} (h : k < xs.length) : gre (xs.take (k + 1)) = if gre (xs.take k) ≤ gi xs k then gi xs k + 1 else gre (xs.take k) := by
  rw [take_gi h]
  unfold gre
  rw [List.foldl_append]
  rfl
theorem gre_inv : ∀ (xs : List Int) (m : Int), 0 ≤ m → m ≤ xs.foldl (fun m x => if m ≤ x then x + 1 else m) m ∧ (∀ x ∈ xs, x < xs.foldl (fun m x => if m ≤ x then x + 1 else m) m) ∧
    (xs.foldl (fun m x => if m ≤ x then x + 1 else m) m = m ∨ ∃ x ∈ xs, xs.foldl (fun m x => if m ≤ x then x + 1 else m) m = x + 1)
  | [], m, _ => by simp
  | x :: xs, m, h => by
    simp only [List.foldl_cons]
    by_cases hx : m ≤ x
    · rw [if_pos hx]
      obtain ⟨a, b, c⟩ := gre_inv xs (x + 1) (by omega)
      refine ⟨by omega, fun y hy => ?_, ?_⟩
      · rcases List.mem_cons.1 hy with rfl | hy
        · omega
        · exact b y hy
      · rcases c with c | ⟨y, hy, c⟩
        · exact .inr ⟨x, by simp, c⟩
        · exact .inr ⟨y, List.mem_cons_of_mem _ hy, c⟩
    · rw [if_neg hx]
      obtain ⟨a, b, c⟩ := gre_inv xs m h
      refine ⟨a, fun y hy => ?_, ?_⟩
      · rcases List.mem_cons.1 hy with rfl | hy
        · omega
        · exact b y hy
      · rcases c with c | ⟨y, hy, c⟩
        · exact .inl c
        · exact .inr ⟨y, List.mem_cons_of_mem _ hy, c⟩
theorem gre_eq {xs : List Int} {c : Int} (h0 : 0 ≤ c) (h : ∀ x ∈ xs, x < c) (hc : c = 0 ∨ c - 1 ∈ xs) : gre xs = c := by
  obtain ⟨a, b, d⟩ := gre_inv xs 0 (by omega)
  show xs.foldl _ 0 = c
  have h1 : c ≤ xs.foldl (fun m x => if m ≤ x then x + 1 else m) 0 := by
    rcases hc with hc | hc
    · omega
    · have := b _ hc; omega
  rcases d with d | ⟨x, hx, d⟩
  · omega
  · have := h x hx; omega
theorem gre_le {xs : List Int} {c : Int} (h0 : 0 ≤ c) (h : ∀ x ∈ xs, x < c) : 0 ≤ gre xs ∧ gre xs ≤ c := by
  obtain ⟨a, b, d⟩ := gre_inv xs 0 (by omega)
  refine ⟨a, ?_⟩
  show xs.foldl _ 0 ≤ c
  rcases d with d | ⟨x, hx, d⟩
  · omega
  · have := h x hx; omega
theorem Labs.mem {n : Nat} {ms : List (List Int)} {L : List Int} {c : Int} (h : Labs n ms n L c) : (∀ x ∈ L, 0 ≤ x ∧ x < c) := by
  intro x hx
  obtain ⟨j, hj, rfl⟩ := in_gi hx
  have hl := h.len
  exact ⟨h.done j (by omega) (by omega) (by omega), (h.rng j (by omega) (by omega)).2⟩
theorem gre_labs {n : Nat} {ms : List (List Int)} (hs : Sym n ms) (hn : n ≤ 1000) : gre (labs n ms) = labc n ms := by
  have h := labs_all hs hn
  have hc := h.c0
  refine gre_eq hc.1 (fun x hx => (h.mem x hx).2) ?_
  by_cases e : labc n ms = 0
  · exact .inl e
  · obtain ⟨x, h0, _, hx, e⟩ := h.hit (labc n ms - 1) (by omega) (by omega)
    right
    rw [← e]
    exact gi_mem h0 (by rw [h.len]; exact hx)

/-- two orbits, and each move leads each flag to the other one -/
def ChiAt (ms : List (List Int)) (L : List Int) : Prop := ∀ j : Nat, j < ms.length → ∀ f : Nat, f < nf ms → gi L (gi (gr ms j) f) ≠ gi L f
noncomputable instance (ms : List (List Int)) (L : List Int) : Decidable (ChiAt ms L) := Classical.propDecidable _
noncomputable def isChi (ms : List (List Int)) : Bool := if IsMan ms then decide (labc (nf ms) (auts ms) = 2 ∧ ChiAt ms (labs (nf ms) (auts ms))) else false
theorem isChi_no {ms : List (List Int)} (h : ¬ IsMan ms) : isChi ms = false := if_neg h
theorem isChi_yes {ms : List (List Int)} (h : IsMan ms) : isChi ms = decide (labc (nf ms) (auts ms) = 2 ∧ ChiAt ms (labs (nf ms) (auts ms))) := if_pos h
end Go.Mem
