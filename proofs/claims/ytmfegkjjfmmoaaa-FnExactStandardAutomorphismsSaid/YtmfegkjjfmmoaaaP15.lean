/- Plain words on lists: words, and what doing them comes to; coverings that are given. No program in sight. -/
import Derived.Test.YtmfegkjjfmmoaaaP14
namespace Go.Mem
section
variable {ms ks : List (List Int)} {wd xs : List Int}
def IsWord (ms : List (List Int)) (wd : List Int) : Prop := wd.length ≤ 64 ∧ ∀ x ∈ wd, 0 ≤ x ∧ x < ms.length
noncomputable instance (ms : List (List Int)) (wd : List Int) : Decidable (IsWord ms wd) := Classical.propDecidable _
/-- the flag to which a word leads -/
def run (ms : List (List Int)) (wd : List Int) (f : Int) : Int := wd.foldl (fun f x => gi (gr ms x) f) f
theorem run_take_succ {k : Nat} {f : Int} (h : k < wd.length) : run ms (wd.take (k + 1)) f = gi (gr ms (gi wd k)) (run ms (wd.take k) f) := by
  rw [take_gi h]; simp [run, List.foldl_append]
theorem run_rng {n : Nat} (hs : Syst n ms) : ∀ (wd : List Int), (∀ x ∈ wd, 0 ≤ x ∧ x < ms.length) → ∀ f : Int, 0 ≤ f ∧ f < n → 0 ≤ run ms wd f ∧ run ms wd f < n
  | [], _, f, hf => hf
  | x :: wd, h, f, hf => by
    have hx := h x (by simp)
    exact run_rng hs wd (fun y hy => h y (List.mem_cons_of_mem _ hy)) _ (hs.at hx.1 hx.2 hf)
/-- the list of the flags to which a word leads -/
def does (ms : List (List Int)) (wd : List Int) (n : Nat) : List Int := wd.foldl (fun p x => aft p (gr ms x)) (idl n)
theorem does_take_succ {k n : Nat} (h : k < wd.length) : does ms (wd.take (k + 1)) n = aft (does ms (wd.take k) n) (gr ms (gi wd k)) := by
  rw [take_gi h]; simp [does, List.foldl_append]
theorem does_gen : ∀ (wd : List Int) (p : List Int), (wd.foldl (fun p x => aft p (gr ms x)) p).length = p.length ∧ ∀ f : Int, 0 ≤ f → f < p.length → gi (wd.foldl (fun p x => aft p (gr ms x)) p) f = run ms wd (gi p f)
  | [], p => ⟨rfl, fun _ _ _ => rfl⟩
  | x :: wd, p => by
    obtain ⟨h1, h2⟩ := does_gen wd (aft p (gr ms x))
    refine ⟨by rw [List.foldl_cons, h1]; simp, fun f h0 hf => ?_⟩
    rw [List.foldl_cons, h2 f h0 (by simpa using hf), gi_aft h0 hf]; rfl
theorem length_does (ms : List (List Int)) (wd : List Int) (n : Nat) : (does ms wd n).length = n := by
  have := (does_gen (ms := ms) wd (idl n)).1
  simpa [does] using this
theorem gi_does {n : Nat} {f : Int} (h0 : 0 ≤ f) (hf : f < n) : gi (does ms wd n) f = run ms wd f := by
  have := (does_gen (ms := ms) wd (idl n)).2 f h0 (by simpa using hf)
  rw [gi_idl h0 hf] at this
  exact this
def Still (ms : List (List Int)) (wd : List Int) : Prop := ∀ f : Nat, f < nf ms → run ms wd f = f
noncomputable instance (ms : List (List Int)) (wd : List Int) : Decidable (Still ms wd) := Classical.propDecidable _
theorem still_does (ms : List (List Int)) (wd : List Int) : Still ms wd ↔ does ms wd (nf ms) = idl (nf ms) := by
  constructor
  · intro h
    refine list_ext_gi (by rw [length_does, length_idl]) fun x h0 hx => ?_
    rw [length_does] at hx
    rw [gi_does h0 hx, gi_idl h0 hx]
    have := h x.toNat (by omega)
    rwa [show ((x.toNat : Nat) : Int) = x by omega] at this
  · intro h f hf
    rw [← gi_does (ms := ms) (n := nf ms) (by omega) (by omega), h, gi_idl (by omega) (by omega)]
noncomputable def doesNo (ms : List (List Int)) (wd : List Int) : Bool := if IsMan ms ∧ IsWord ms wd then decide (Still ms wd) else false
noncomputable def wordC (ms : List (List Int)) (wd : List Int) : Int := if IsMan ms then (if IsWord ms wd then 0 else 2) else 1
theorem word_1 (h : ¬ IsMan ms) : doesNo ms wd = false ∧ wordC ms wd = 1 := ⟨if_neg fun h' => h h'.1, if_neg h⟩
theorem word_2 (hm : IsMan ms) (h : ¬ IsWord ms wd) : doesNo ms wd = false ∧ wordC ms wd = 2 := ⟨if_neg fun h' => h h'.2, by unfold wordC; rw [if_pos hm, if_neg h]⟩
theorem word_3 (hm : IsMan ms) (h : IsWord ms wd) : doesNo ms wd = decide (Still ms wd) ∧ wordC ms wd = 0 := ⟨if_pos ⟨hm, h⟩, by unfold wordC; rw [if_pos hm, if_pos h]⟩

/-- the list is a covering -/
def IsCov (ms ks : List (List Int)) (xs : List Int) : Prop := xs.length = nf ms ∧ (0 ≤ gi xs 0 ∧ gi xs 0 < nf ks) ∧ mapT ms ks (gi xs 0) = some xs
noncomputable instance (ms ks : List (List Int)) (xs : List Int) : Decidable (IsCov ms ks xs) := Classical.propDecidable _
theorem isCov_1 (h : xs.length ≠ nf ms) : decide (IsCov ms ks xs) = false := decide_eq_false fun e => h e.1
theorem isCov_2 (h : ¬ (0 ≤ gi xs 0 ∧ gi xs 0 < nf ks)) : decide (IsCov ms ks xs) = false := decide_eq_false fun e => h e.2.1
theorem isCov_3 (h1 : xs.length = nf ms) (h2 : 0 ≤ gi xs 0 ∧ gi xs 0 < nf ks) : decide (IsCov ms ks xs) = ((mapT ms ks (gi xs 0)).isSome && decide ((mapT ms ks (gi xs 0)).getD [] = xs)) := by
  cases h : mapT ms ks (gi xs 0) with
  | none =>
    rw [decide_eq_false (fun e : IsCov ms ks xs => by have := e.2.2; rw [h] at this; simp at this)]; rfl
  | some p =>
    by_cases e : p = xs
    · rw [decide_eq_true (show IsCov ms ks xs from ⟨h1, h2, by rw [h, e]⟩)]; simp [e]
    · rw [decide_eq_false (fun c : IsCov ms ks xs => e (by have := c.2.2; rw [h] at this; simpa using this))]; simp [e]
/-- the comparison alone tells, for xs that are some -/
theorem isCov_4 (h1 : xs.length = nf ms) (h2 : 0 ≤ gi xs 0 ∧ gi xs 0 < nf ks) (hne : 2 ≤ nf ms) : decide (IsCov ms ks xs) = decide ((mapT ms ks (gi xs 0)).getD [] = xs) := by
  rw [isCov_3 h1 h2]
  cases h : mapT ms ks (gi xs 0) with
  | none =>
    have : ¬ [] = xs := fun e => by subst e; simp at h1; omega
    simp [this]
  | some p => simp
noncomputable def isCovB (ms ks : List (List Int)) (xs : List Int) : Bool := if IsMan ms ∧ IsMan ks then decide (IsCov ms ks xs) else false
noncomputable def manC2 (ms ks : List (List Int)) : Int := if IsMan ms ∧ IsMan ks then 0 else 1
theorem isCovB_1 (h : ¬ (IsMan ms ∧ IsMan ks)) : isCovB ms ks xs = false ∧ manC2 ms ks = 1 := ⟨if_neg h, if_neg h⟩
theorem isCovB_2 (hm : IsMan ms) (hk : IsMan ks) : isCovB ms ks xs = decide (IsCov ms ks xs) ∧ manC2 ms ks = 0 := ⟨if_pos ⟨hm, hk⟩, if_pos ⟨hm, hk⟩⟩
/-- where the first is for which p holds (or -1) -/
def idxF (p : Int → Bool) (xs : List Int) : Int :=
  match xs.findIdx? p with
  | some i => i
  | none => -1
theorem idxF_some {p : Int → Bool} {i : Nat} (hi : i < xs.length) (h : p (gi xs i) = true) (hb : ∀ j : Nat, j < i → p (gi xs j) = false) : idxF p xs = i := by
  have : xs.findIdx? p = some i := by
    rw [List.findIdx?_eq_some_iff_getElem]
    refine ⟨hi, ?_, fun j hj => ?_⟩
    · simpa [gi, List.getD, hi] using h
    · have h' := hb j hj
      have hjl : j < xs.length := by omega
      simpa [gi, List.getD, hjl] using h'
  unfold idxF; rw [this]
theorem idxF_none {p : Int → Bool} (h : ∀ j : Nat, j < xs.length → p (gi xs j) = false) : idxF p xs = -1 := by
  have : xs.findIdx? p = none := by
    rw [List.findIdx?_eq_none_iff]
    intro x hx
    obtain ⟨j, hj, rfl⟩ := in_gi hx
    exact h j hj
  unfold idxF; rw [this]
theorem idxF_any (p : Int → Bool) (xs : List Int) : decide (0 ≤ idxF p xs) = xs.any p := by
  by_cases h : ∃ j : Nat, j < xs.length ∧ p (gi xs j) = true
  · obtain ⟨j, hj, h⟩ := h
    have h1 : xs.any p = true := List.any_eq_true.2 ⟨_, gi_in hj, h⟩
    rw [h1]
    unfold idxF
    cases e : xs.findIdx? p with
    | none => rw [List.findIdx?_eq_none_iff] at e; have := e _ (gi_in hj); rw [this] at h; simp at h
    | some i => simp
  · have hn : ∀ j : Nat, j < xs.length → p (gi xs j) = false := fun j hj => by
      by_cases e : p (gi xs j) = true
      · exact absurd ⟨j, hj, e⟩ h
      · simpa using e
    rw [idxF_none hn]
    have : xs.any p = false := by
      rw [List.any_eq_false]
      intro x hx e
      obtain ⟨j, hj, rfl⟩ := in_gi hx
      rw [hn j hj] at e; simp at e
    rw [this]; simp
theorem any_within {m : Nat} : (!(wd.any fun x => !inB x 0 ((m : Int) - 1))) = decide (∀ x ∈ wd, 0 ≤ x ∧ x < m) := by
  have e : ∀ x, inB x 0 ((m : Int) - 1) = decide (0 ≤ x ∧ x < m) := fun x => by
    unfold inB; by_cases h1 : 0 ≤ x <;> by_cases h2 : x ≤ (m : Int) - 1 <;> simp [h1, h2] <;> omega
  by_cases h : ∀ x ∈ wd, 0 ≤ x ∧ x < m
  · rw [decide_eq_true h]
    have : (wd.any fun x => !inB x 0 ((m : Int) - 1)) = false := by
      rw [List.any_eq_false]; intro x hx; rw [e, decide_eq_true (h x hx)]; simp
    rw [this]; rfl
  · rw [decide_eq_false h]
    have : (wd.any fun x => !inB x 0 ((m : Int) - 1)) = true := by
      rw [List.any_eq_true]
      refine Classical.byContradiction fun hn => h fun x hx => Classical.byContradiction fun hx' => hn ⟨x, hx, ?_⟩
      rw [e, decide_eq_false hx']; rfl
    rw [this]; rfl
end
end Go.Mem
