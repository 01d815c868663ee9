/- Texts laid together: P1 P2 P4 P5 P6 P7 P8 P9 P10. -/
import Derived.Test.YtkknhcpjiehgiaaDoorWA
import Derived.Test.YtkknhcpjiehgiaaDoorWB
/- Plain words on lists: ranges, permutations, free involutions. No program in sight. -/
namespace Go.Mem
def inB (n lo hi : Int) : Bool := decide (lo ≤ n) && decide (n ≤ hi)
theorem inB_true {n lo hi : Int} (h : inB n lo hi = true) : lo ≤ n ∧ n ≤ hi := by simpa [inB] using h
theorem inB_false {n lo hi : Int} (h : inB n lo hi = false) : ¬ (lo ≤ n ∧ n ≤ hi) := by intro h'; simp [inB, h'.1, h'.2] at h

/-- xs is a permutation of at most 400 points -/
def IsPerm (xs : List Int) : Prop := xs.length ≤ 400 ∧ (∀ x ∈ xs, 0 ≤ x ∧ x < xs.length) ∧ xs.Nodup
instance (xs : List Int) : Decidable (IsPerm xs) := by unfold IsPerm; infer_instance
/-- The first i numbers of xs are in range, no two alike, and bs marks them. -/
structure Seen (xs : List Int) (i : Nat) (bs : List Bool) : Prop where
  len : bs.length = xs.length
  rng : ∀ x ∈ xs.take i, 0 ≤ x ∧ x < xs.length
  nodup : (xs.take i).Nodup
  mark : ∀ j : Int, 0 ≤ j → j < xs.length → (gb bs j = true ↔ j ∈ xs.take i)

theorem gb_setb (bs : List Bool) (j k : Int) (b : Bool) (h0 : 0 ≤ j) (hj : j < bs.length) (hk : 0 ≤ k) : gb (setb bs j b) k = if k = j then b else gb bs k := by
  have hlt : j.toNat < bs.length := by omega
  simp only [gb, setb, List.getD, List.getElem?_set]
  by_cases h : k = j
  · subst h; simp [hlt]
  · have : ¬ j.toNat = k.toNat := by omega
    simp [h, this]
theorem gi_mem {xs : List Int} {j : Int} (h0 : 0 ≤ j) (hj : j < xs.length) : gi xs j ∈ xs := by
  have hlt : j.toNat < xs.length := by omega
  simp [gi, List.getD, hlt]
theorem take_gi {xs : List Int} {i : Nat} (h : i < xs.length) : xs.take (i + 1) = xs.take i ++ [gi xs i] := by
  rw [List.take_succ_eq_append_getElem h]
  simp [gi, List.getD, h]
theorem Seen.start (xs : List Int) (m : Nat) (hm : m = xs.length) : Seen xs 0 (List.replicate m false) := by
  subst hm
  refine ⟨by simp, by simp, by simp, fun j h0 hj => ?_⟩
  have hlt : j.toNat < xs.length := by omega
  simp [gb, List.getD, hlt]
theorem Seen.step {xs : List Int} {i : Nat} {bs : List Bool} (h : Seen xs i bs) (hi : i < xs.length) (hr : inB (gi xs i) 0 (xs.length - 1) = true) (hn : gb bs (gi xs i) = false) :
    Seen xs (i + 1) (setb bs (gi xs i) true) := by
  have hr := inB_true hr
  have hnm : gi xs i ∉ xs.take i := fun hm => by have := (h.mark _ hr.1 (by omega)).2 hm; rw [hn] at this; cases this
  refine ⟨by simp [h.len], ?_, ?_, fun j h0 hj => ?_⟩
  · intro x hx
    rw [take_gi hi, List.mem_append] at hx
    rcases hx with hx | hx
    · exact h.rng x hx
    · simp at hx; subst hx; omega
  · rw [take_gi hi, List.nodup_append]
    refine ⟨h.nodup, by simp, ?_⟩
    intro a ha b hb
    simp at hb
    subst hb
    intro e
    subst e
    exact hnm ha
  · rw [gb_setb bs _ j true hr.1 (by rw [h.len]; omega) h0, take_gi hi, List.mem_append]
    by_cases e : j = gi xs i
    · simp [e]
    · simp [e, h.mark j h0 hj]
theorem Seen.done {xs : List Int} {bs : List Bool} (h : Seen xs xs.length bs) (h4 : ¬ (400 : Int) < xs.length) : decide (IsPerm xs) = true := by
  have hr := h.rng
  have hn := h.nodup
  simp only [List.take_length] at hr hn
  exact decide_eq_true ⟨by omega, hr, hn⟩
theorem Seen.bad_range {xs : List Int} {i : Nat} (hi : i < xs.length) (hr : inB (gi xs i) 0 (xs.length - 1) = false) : decide (IsPerm xs) = false := by
  have hr := inB_false hr
  refine decide_eq_false fun h => hr ?_
  have := h.2.1 _ (gi_mem (xs := xs) (j := i) (by omega) (by omega))
  omega
theorem Seen.bad_twice {xs : List Int} {i : Nat} {bs : List Bool} (h : Seen xs i bs) (hi : i < xs.length) (hr : inB (gi xs i) 0 (xs.length - 1) = true) (hn : gb bs (gi xs i) = true) : decide (IsPerm xs) = false := by
  have hr := inB_true hr
  have hm := (h.mark _ hr.1 (by omega)).1 hn
  refine decide_eq_false fun hp => ?_
  have hnd := hp.2.2
  have : (xs.take (i + 1)).Nodup := hnd.sublist (List.take_sublist _ _)
  rw [take_gi hi, List.nodup_append] at this
  exact this.2.2 _ hm _ (by simp) rfl


/-- No point stays, and done twice every point does. -/
def IsFree (xs : List Int) : Prop := ∀ i : Nat, i < xs.length → gi xs i ≠ i ∧ gi xs (gi xs i) = i
instance (xs : List Int) : Decidable (IsFree xs) := by unfold IsFree; infer_instance
theorem IsPerm.gi {xs : List Int} (h : IsPerm xs) {j : Int} (h0 : 0 ≤ j) (hj : j < xs.length) : 0 ≤ Mem.gi xs j ∧ Mem.gi xs j < xs.length := h.2.1 _ (gi_mem h0 hj)
end Go.Mem

/- Plain words on lists: orbits, in the order in which they are reached. No program in sight. -/
namespace Go.Mem

/-- A list of maps of n points into themselves. -/
def Syst (n : Nat) (ms : List (List Int)) : Prop := ∀ m ∈ ms, m.length = n ∧ ∀ x ∈ m, 0 ≤ x ∧ x < n
def visit (o : List Int) (x : Int) : List Int := if x ∈ o then o else o ++ [x]
def visits (o xs : List Int) : List Int := xs.foldl visit o
def images (ms : List (List Int)) (x : Int) : List Int := ms.map (fun m => gi m x)
def bfs (ms : List (List Int)) (p : Int) : Nat → List Int
  | 0 => [p]
  | i + 1 => if i < (bfs ms p i).length then visits (bfs ms p i) (images ms (gi (bfs ms p i) i)) else bfs ms p i
/-- The points to which the maps lead p, in the order in which they are reached. -/
def orbit (ms : List (List Int)) (p : Int) : List Int := bfs ms p 1000

structure Orb (n : Nat) (seen : List Bool) (o : List Int) : Prop where
  len : n ≤ seen.length
  nodup : o.Nodup
  rng : ∀ x ∈ o, 0 ≤ x ∧ x < n
  mark : ∀ j : Int, 0 ≤ j → j < n → (gb seen j = true ↔ j ∈ o)

theorem nodup_le {n : Nat} {o : List Int} (hn : o.Nodup) (hr : ∀ x ∈ o, 0 ≤ x ∧ x < n) : o.length ≤ n := by
  have h := List.Nodup.length_le_of_subset (l₂ := (List.range n).map (fun i : Nat => (i : Int))) hn (by
    intro x hx
    have := hr x hx
    exact List.mem_map.2 ⟨x.toNat, List.mem_range.2 (by omega), by omega⟩)
  simpa using h
theorem Orb.le {n : Nat} {seen : List Bool} {o : List Int} (h : Orb n seen o) : o.length ≤ n := nodup_le h.nodup h.rng

theorem visit_prefix (o : List Int) (x : Int) : ∃ e, visit o x = o ++ e := by
  unfold visit
  split
  · exact ⟨[], by simp⟩
  · exact ⟨[x], rfl⟩
theorem visits_prefix : ∀ (xs o : List Int), ∃ e, visits o xs = o ++ e
  | [], o => ⟨[], by simp [visits]⟩
  | x :: xs, o => by
    obtain ⟨e1, h1⟩ := visit_prefix o x
    obtain ⟨e2, h2⟩ := visits_prefix xs (visit o x)
    refine ⟨e1 ++ e2, ?_⟩
    show visits (visit o x) xs = _
    rw [h2, h1, List.append_assoc]
theorem gi_append_left {o e : List Int} {j : Int} (h0 : 0 ≤ j) (hj : j < o.length) : gi (o ++ e) j = gi o j := by
  have : j.toNat < o.length := by omega
  simp [gi, List.getD, List.getElem?_append, this]
theorem gi_visits {o xs : List Int} {j : Int} (h0 : 0 ≤ j) (hj : j < o.length) : gi (visits o xs) j = gi o j := by
  obtain ⟨e, h⟩ := visits_prefix xs o
  rw [h]; exact gi_append_left h0 hj
theorem length_visits (o xs : List Int) : o.length ≤ (visits o xs).length := by
  obtain ⟨e, h⟩ := visits_prefix xs o
  rw [h]; simp
theorem visits_take_succ {o xs : List Int} {j : Nat} (h : j < xs.length) : visits o (xs.take (j + 1)) = visit (visits o (xs.take j)) (gi xs j) := by
  rw [take_gi h]; simp [visits]
theorem visits_take_all {o xs : List Int} {j : Nat} (h : xs.length ≤ j) : visits o (xs.take j) = visits o xs := by rw [List.take_of_length_le h]
theorem gi_images {ms : List (List Int)} {x : Int} {j : Nat} (h : j < ms.length) : gi (images ms x) j = gi (gr ms j) x := by
  simp [images, gi, gr, List.getD, h]
theorem length_images (ms : List (List Int)) (x : Int) : (images ms x).length = ms.length := by simp [images]

theorem Orb.start {n : Nat} {p : Int} {m : Nat} (hp : 0 ≤ p ∧ p < n) (hm : n ≤ m) : Orb n (setb (List.replicate m false) p true) [p] := by
  refine ⟨by simpa using hm, by simp, by simpa using hp, fun j h0 hj => ?_⟩
  rw [gb_setb _ _ _ _ hp.1 (by simp; omega) h0]
  by_cases e : j = p
  · simp [e]
  · have hlt : j.toNat < m := by omega
    simp [e, gb, List.getD, hlt]
theorem Orb.hit {n : Nat} {seen : List Bool} {o : List Int} {x : Int} (h : Orb n seen o) (hx : 0 ≤ x ∧ x < n) (hs : gb seen x = true) : visit o x = o := by
  unfold visit
  rw [if_pos ((h.mark x hx.1 hx.2).1 hs)]
theorem Orb.miss {n : Nat} {seen : List Bool} {o : List Int} {x : Int} (h : Orb n seen o) (hx : 0 ≤ x ∧ x < n) (hs : gb seen x = false) : visit o x = o ++ [x] ∧ Orb n (setb seen x true) (o ++ [x]) := by
  have hn : x ∉ o := fun hm => by have := (h.mark x hx.1 hx.2).2 hm; rw [hs] at this; cases this
  have hlen := h.len
  refine ⟨by unfold visit; rw [if_neg hn], ⟨by simpa using hlen, ?_, ?_, fun j h0 hj => ?_⟩⟩
  · rw [List.nodup_append]
    refine ⟨h.nodup, by simp, ?_⟩
    intro a ha b hb
    simp at hb
    subst hb
    intro e
    subst e
    exact hn ha
  · intro y hy
    rcases List.mem_append.1 hy with hy | hy
    · exact h.rng y hy
    · simp at hy; subst hy; exact hx
  · rw [gb_setb _ _ _ _ hx.1 (by omega) h0]
    by_cases e : j = x
    · simp [e]
    · simp [e, h.mark j h0 hj]

theorem Syst.row {n : Nat} {ms : List (List Int)} (h : Syst n ms) {j : Int} (h0 : 0 ≤ j) (hj : j < ms.length) : (gr ms j).length = n ∧ ∀ x ∈ gr ms j, 0 ≤ x ∧ x < n := by
  have hlt : j.toNat < ms.length := by omega
  have : gr ms j ∈ ms := by simp [gr, List.getD, hlt]
  exact h _ this
theorem Syst.at {n : Nat} {ms : List (List Int)} (h : Syst n ms) {j x : Int} (h0 : 0 ≤ j) (hj : j < ms.length) (hx : 0 ≤ x ∧ x < n) : 0 ≤ gi (gr ms j) x ∧ gi (gr ms j) x < n := by
  have hr := h.row h0 hj
  exact hr.2 _ (gi_mem hx.1 (by omega))

theorem bfs_stable {ms : List (List Int)} {p : Int} {i : Nat} (h : (bfs ms p i).length ≤ i) : ∀ d, bfs ms p (i + d) = bfs ms p i
  | 0 => rfl
  | d + 1 => by
    have ih := bfs_stable h d
    show (if i + d < (bfs ms p (i + d)).length then _ else bfs ms p (i + d)) = _
    rw [ih, if_neg (by omega)]
theorem orbit_eq {ms : List (List Int)} {p : Int} {i : Nat} (h : (bfs ms p i).length ≤ i) (hi : i ≤ 1000) : orbit ms p = bfs ms p i := by
  have := bfs_stable h (1000 - i)
  rw [show i + (1000 - i) = 1000 from by omega] at this
  exact this
theorem bfs_succ {ms : List (List Int)} {p : Int} {i : Nat} (h : i < (bfs ms p i).length) : bfs ms p (i + 1) = visits (bfs ms p i) (images ms (gi (bfs ms p i) i)) := by
  show (if i < (bfs ms p i).length then _ else _) = _
  rw [if_pos h]
end Go.Mem

/- Plain words on lists: what is reached, and the numbers of the orbits. No program in sight. -/
namespace Go.Mem

/-- y is reached from x -/
inductive Rch (ms : List (List Int)) : Int → Int → Prop
  | refl (x : Int) : Rch ms x x
  | step {x y : Int} {m : List Int} : Rch ms x y → m ∈ ms → Rch ms x (gi m y)
theorem Rch.trans {ms : List (List Int)} {x y z : Int} (h : Rch ms x y) (k : Rch ms y z) : Rch ms x z := by
  induction k with
  | refl => exact h
  | step _ hm ih => exact .step ih hm
theorem Syst.mem {n : Nat} {ms : List (List Int)} (h : Syst n ms) {m : List Int} (hm : m ∈ ms) {x : Int} (hx : 0 ≤ x ∧ x < n) : 0 ≤ gi m x ∧ gi m x < n := by
  have := h m hm
  exact this.2 _ (gi_mem hx.1 (by omega))
theorem Rch.rng {n : Nat} {ms : List (List Int)} {x y : Int} (hs : Syst n ms) (h : Rch ms x y) (hx : 0 ≤ x ∧ x < n) : 0 ≤ y ∧ y < n := by
  induction h with
  | refl => exact hx
  | step _ hm ih => exact hs.mem hm ih

theorem mem_visit {o : List Int} {x y : Int} : y ∈ visit o x ↔ y ∈ o ∨ y = x := by
  unfold visit
  split
  · rename_i h
    constructor
    · exact .inl
    · rintro (h' | rfl); exact h'; exact h
  · simp
theorem mem_visits : ∀ {xs o : List Int} {y : Int}, y ∈ visits o xs ↔ y ∈ o ∨ y ∈ xs
  | [], o, y => by simp [visits]
  | x :: xs, o, y => by
    show y ∈ visits (visit o x) xs ↔ _
    rw [mem_visits, mem_visit, List.mem_cons]
    constructor
    · rintro ((h | h) | h)
      · exact .inl h
      · exact .inr (.inl h)
      · exact .inr (.inr h)
    · rintro (h | h | h)
      · exact .inl (.inl h)
      · exact .inl (.inr h)
      · exact .inr h
theorem nodup_visit {o : List Int} {x : Int} (h : o.Nodup) : (visit o x).Nodup := by
  unfold visit
  split
  · exact h
  · rename_i hn
    rw [List.nodup_append]
    refine ⟨h, by simp, ?_⟩
    intro a ha b hb
    simp at hb
    subst hb
    intro e
    subst e
    exact hn ha
theorem nodup_visits : ∀ {xs o : List Int}, o.Nodup → (visits o xs).Nodup
  | [], _, h => h
  | x :: xs, o, h => by
    show (visits (visit o x) xs).Nodup
    exact nodup_visits (nodup_visit h)
theorem mem_images {ms : List (List Int)} {x y : Int} : y ∈ images ms x ↔ ∃ m ∈ ms, gi m x = y := by simp [images]

theorem gi_in {xs : List Int} {j : Nat} (h : j < xs.length) : gi xs j ∈ xs := by simp [gi, List.getD, h]
theorem in_gi {xs : List Int} {x : Int} (h : x ∈ xs) : ∃ j : Nat, j < xs.length ∧ gi xs j = x := by
  obtain ⟨j, hj, e⟩ := List.mem_iff_getElem.1 h
  exact ⟨j, hj, by simp [gi, List.getD, hj, e]⟩

theorem bfs_rch {ms : List (List Int)} {p : Int} : ∀ (i : Nat) {y : Int}, y ∈ bfs ms p i → Rch ms p y
  | 0, y, h => by simp [bfs] at h; subst h; exact .refl _
  | i + 1, y, h => by
    unfold bfs at h
    split at h
    · rename_i hlt
      rcases mem_visits.1 h with h | h
      · exact bfs_rch i h
      · obtain ⟨m, hm, rfl⟩ := mem_images.1 h
        exact .step (bfs_rch i (gi_in hlt)) hm
    · exact bfs_rch i h
theorem bfs_nodup {ms : List (List Int)} {p : Int} : ∀ (i : Nat), (bfs ms p i).Nodup
  | 0 => by simp [bfs]
  | i + 1 => by
    unfold bfs
    split
    · exact nodup_visits (bfs_nodup i)
    · exact bfs_nodup i
theorem bfs_start {ms : List (List Int)} {p : Int} : ∀ (i : Nat), p ∈ bfs ms p i
  | 0 => by simp [bfs]
  | i + 1 => by
    unfold bfs
    split
    · exact mem_visits.2 (.inl (bfs_start i))
    · exact bfs_start i
theorem bfs_done {ms : List (List Int)} {p : Int} : ∀ (i j : Nat), j < i → j < (bfs ms p i).length → ∀ m ∈ ms, gi m (gi (bfs ms p i) j) ∈ bfs ms p i
  | 0, j, h, _, _, _ => by omega
  | i + 1, j, h, hj, m, hm => by
    by_cases hlt : i < (bfs ms p i).length
    · rw [bfs_succ hlt] at hj ⊢
      by_cases hji : j = i
      · subst hji
        rw [gi_visits (by omega) (by omega)]
        exact mem_visits.2 (.inr (mem_images.2 ⟨m, hm, rfl⟩))
      · rw [gi_visits (by omega) (by omega)]
        exact mem_visits.2 (.inl (bfs_done i j (by omega) (by omega) m hm))
    · have e : bfs ms p (i + 1) = bfs ms p i := by
        show (if i < (bfs ms p i).length then _ else _) = _
        rw [if_neg hlt]
      rw [e] at hj ⊢
      exact bfs_done i j (by omega) hj m hm

theorem orbit_bfs {n : Nat} {ms : List (List Int)} {p : Int} (hs : Syst n ms) (hp : 0 ≤ p ∧ p < n) (hn : n ≤ 1000) : orbit ms p = bfs ms p n ∧ (bfs ms p n).length ≤ n := by
  have hl : (bfs ms p n).length ≤ n := nodup_le (bfs_nodup n) (fun x hx => (bfs_rch n hx).rng hs hp)
  exact ⟨orbit_eq hl hn, hl⟩
theorem mem_orbit {n : Nat} {ms : List (List Int)} {p : Int} (hs : Syst n ms) (hp : 0 ≤ p ∧ p < n) (hn : n ≤ 1000) {x : Int} : x ∈ orbit ms p ↔ Rch ms p x := by
  obtain ⟨e, hl⟩ := orbit_bfs hs hp hn
  rw [e]
  refine ⟨bfs_rch n, fun h => ?_⟩
  induction h with
  | refl => exact bfs_start n
  | step _ hm ih =>
    obtain ⟨j, hj, rfl⟩ := in_gi ih
    exact bfs_done n j (by omega) hj _ hm
theorem orbit_nodup (ms : List (List Int)) (p : Int) : (orbit ms p).Nodup := bfs_nodup _
theorem orbit_le {n : Nat} {ms : List (List Int)} {p : Int} (hs : Syst n ms) (hp : 0 ≤ p ∧ p < n) (hn : n ≤ 1000) : (orbit ms p).length ≤ n := by
  obtain ⟨e, hl⟩ := orbit_bfs hs hp hn
  rw [e]; exact hl

/-! ### The numbers of the orbits -/
/-- a system whose reaching goes both ways -/
structure Sym (n : Nat) (ms : List (List Int)) : Prop where
  syst : Syst n ms
  back : ∀ x y : Int, 0 ≤ x → x < n → Rch ms x y → Rch ms y x
/-- all of the orbit of p get the number c -/
def lab1 (ms : List (List Int)) (L : List Int) (c p : Int) : List Int := (List.range L.length).map fun x : Nat => if (x : Int) ∈ orbit ms p then c else gi L x
def labsFrom (n : Nat) (ms : List (List Int)) : Nat → List Int × Int
  | 0 => (List.replicate n (-1), 0)
  | i + 1 => if gi (labsFrom n ms i).1 i < 0 then (lab1 ms (labsFrom n ms i).1 (labsFrom n ms i).2 i, (labsFrom n ms i).2 + 1) else labsFrom n ms i
/-- For each of n points the number of its orbit; how many there are. -/
def labs (n : Nat) (ms : List (List Int)) : List Int := (labsFrom n ms n).1
def labc (n : Nat) (ms : List (List Int)) : Int := (labsFrom n ms n).2

theorem gi_range_map {f : Nat → Int} {n : Nat} {x : Int} (h0 : 0 ≤ x) (hx : x < n) : gi ((List.range n).map f) x = f x.toNat := by
  have : x.toNat < n := by omega
  simp [gi, List.getD, this]
theorem gi_lab1 {ms : List (List Int)} {L : List Int} {c p x : Int} (h0 : 0 ≤ x) (hx : x < L.length) : gi (lab1 ms L c p) x = if x ∈ orbit ms p then c else gi L x := by
  unfold lab1
  rw [gi_range_map h0 hx]
  have : (x.toNat : Int) = x := by omega
  simp only [this]
theorem length_lab1 {ms : List (List Int)} {L : List Int} {c p : Int} : (lab1 ms L c p).length = L.length := by simp [lab1]

/-- What holds once the first i points have been looked at. -/
structure Labs (n : Nat) (ms : List (List Int)) (i : Nat) (L : List Int) (c : Int) : Prop where
  len : L.length = n
  c0 : 0 ≤ c ∧ c ≤ i
  rng : ∀ x : Int, 0 ≤ x → x < n → -1 ≤ gi L x ∧ gi L x < c
  done : ∀ x : Int, 0 ≤ x → x < i → x < n → 0 ≤ gi L x
  shut : ∀ x y : Int, 0 ≤ x → x < n → 0 ≤ gi L x → Rch ms x y → gi L y = gi L x
  only : ∀ x y : Int, 0 ≤ x → x < n → 0 ≤ y → y < n → 0 ≤ gi L x → gi L y = gi L x → Rch ms x y
  hit : ∀ k : Int, 0 ≤ k → k < c → ∃ x : Int, 0 ≤ x ∧ x < i ∧ x < n ∧ gi L x = k
theorem labs_inv {n : Nat} {ms : List (List Int)} (hs : Sym n ms) (hn : n ≤ 1000) : ∀ i : Nat, i ≤ n → Labs n ms i (labsFrom n ms i).1 (labsFrom n ms i).2
  | 0, _ => by
    have g : ∀ x : Int, 0 ≤ x → x < n → gi (List.replicate n (-1 : Int)) x = -1 := fun x h0 hx => by
      have : x.toNat < n := by omega
      simp [gi, List.getD, this]
    refine ⟨by simp [labsFrom], by simp [labsFrom], fun x h0 hx => ?_, fun x h0 hx => by omega, fun x y h0 hx hp _ => ?_, fun x y h0 hx _ _ hp _ => ?_, fun k h0 hk => ?_⟩
    · simp only [labsFrom]; rw [g x h0 hx]; omega
    · simp only [labsFrom] at hp; rw [g x h0 hx] at hp; omega
    · simp only [labsFrom] at hp; rw [g x h0 hx] at hp; omega
    · simp only [labsFrom] at hk; omega
  | i + 1, hi => by
    have ih := labs_inv hs hn i (by omega)
    unfold labsFrom
    split
    · rename_i hneg
      generalize (labsFrom n ms i).1 = L at *
      generalize (labsFrom n ms i).2 = c at *
      have hip : 0 ≤ (i : Int) ∧ (i : Int) < n := by omega
      have hmem : ∀ {x : Int}, x ∈ orbit ms i ↔ Rch ms i x := mem_orbit hs.syst hip hn
      have hg : ∀ x : Int, 0 ≤ x → x < n → gi (lab1 ms L c i) x = if x ∈ orbit ms i then c else gi L x := fun x h0 hx => gi_lab1 h0 (by rw [ih.len]; exact hx)
      have hc0 := ih.c0
      refine ⟨by rw [length_lab1, ih.len], by simp only; omega, fun x h0 hx => ?_, fun x h0 hx hxn => ?_, fun x y h0 hx hp hr => ?_, fun x y h0 hx hy0 hy hp he => ?_, fun k h0 hk => ?_⟩
      · simp only
        rw [hg x h0 hx]
        have := ih.rng x h0 hx
        split <;> omega
      · simp only
        rw [hg x h0 hxn]
        split
        · omega
        · rename_i hno
          by_cases hxi : x = i
          · subst hxi; exact absurd (hmem.2 (.refl _)) hno
          · exact ih.done x h0 (by omega) hxn
      · simp only at hp ⊢
        have hy := hr.rng hs.syst ⟨h0, hx⟩
        rw [hg x h0 hx] at hp ⊢
        rw [hg y hy.1 hy.2]
        by_cases hxo : x ∈ orbit ms i
        · rw [if_pos hxo, if_pos (hmem.2 ((hmem.1 hxo).trans hr))]
        · rw [if_neg hxo] at hp ⊢
          have hyo : y ∉ orbit ms i := fun h => hxo (hmem.2 ((hmem.1 h).trans (hs.back x y h0 hx hr)))
          rw [if_neg hyo]
          exact ih.shut x y h0 hx hp hr
      · simp only at hp he
        rw [hg x h0 hx] at hp he
        rw [hg y hy0 hy] at he
        have hrx := ih.rng x h0 hx
        have hry := ih.rng y hy0 hy
        by_cases hxo : x ∈ orbit ms i
        · rw [if_pos hxo] at he hp
          by_cases hyo : y ∈ orbit ms i
          · exact (hs.back i x hip.1 hip.2 (hmem.1 hxo)).trans (hmem.1 hyo)
          · rw [if_neg hyo] at he; omega
        · rw [if_neg hxo] at he hp
          by_cases hyo : y ∈ orbit ms i
          · rw [if_pos hyo] at he; omega
          · rw [if_neg hyo] at he; exact ih.only x y h0 hx hy0 hy hp he
      · simp only at hk
        by_cases hkc : k = c
        · subst hkc
          exact ⟨i, by omega, by omega, by omega, by simp only; rw [hg i hip.1 hip.2, if_pos (hmem.2 (.refl _))]⟩
        · obtain ⟨x, h0x, hxi, hxn, he⟩ := ih.hit k h0 (by omega)
          refine ⟨x, h0x, by omega, hxn, ?_⟩
          simp only
          rw [hg x h0x hxn]
          have hxo : x ∉ orbit ms i := fun h => by
            have h1 := ih.shut x i h0x hxn (by omega) (hs.back i x hip.1 hip.2 (hmem.1 h))
            omega
          rw [if_neg hxo]; exact he
    · rename_i hneg
      have hc0 := ih.c0
      refine ⟨ih.len, by omega, ih.rng, fun x h0 hx hxn => ?_, ih.shut, ih.only, fun k h0 hk => ?_⟩
      · by_cases hxi : x = i
        · subst hxi; omega
        · exact ih.done x h0 (by omega) hxn
      · obtain ⟨x, h1, h2, h3, h4⟩ := ih.hit k h0 hk
        exact ⟨x, h1, by omega, h3, h4⟩
theorem labs_all {n : Nat} {ms : List (List Int)} (hs : Sym n ms) (hn : n ≤ 1000) : Labs n ms n (labs n ms) (labc n ms) := labs_inv hs hn n (Nat.le_refl _)

theorem labc_one {n : Nat} {ms : List (List Int)} (hs : Sym n ms) (hn : n ≤ 1000) (h1 : 1 ≤ n) : labc n ms = 1 ↔ ∀ x : Int, 0 ≤ x → x < n → Rch ms 0 x := by
  have h := labs_all hs hn
  have h0 : 0 ≤ gi (labs n ms) 0 := h.done 0 (by omega) (by omega) (by omega)
  have hr0 := h.rng 0 (by omega) (by omega)
  constructor
  · intro e x hx0 hx
    have hrx := h.rng x hx0 hx
    have hdx := h.done x hx0 (by omega) hx
    exact h.only 0 x (by omega) (by omega) hx0 hx h0 (by omega)
  · intro ha
    have hc := h.c0
    by_cases hc1 : labc n ms = 1
    · exact hc1
    · obtain ⟨x, a1, _, a3, a4⟩ := h.hit 0 (by omega) (by omega)
      obtain ⟨y, b1, _, b3, b4⟩ := h.hit 1 (by omega) (by omega)
      have e1 := h.shut 0 x (by omega) (by omega) h0 (ha x a1 a3)
      have e2 := h.shut 0 y (by omega) (by omega) h0 (ha y b1 b3)
      omega
theorem full_mem {n : Nat} {o : List Int} (hn : o.Nodup) (hr : ∀ x ∈ o, 0 ≤ x ∧ x < n) (e : o.length = n) {x : Int} (h0 : 0 ≤ x) (hx : x < n) : x ∈ o := by
  refine Classical.byContradiction fun hno => ?_
  have := nodup_le (n := n) (o := x :: o) (by rw [List.nodup_cons]; exact ⟨hno, hn⟩) (by
    intro y hy
    rcases List.mem_cons.1 hy with rfl | hy
    · exact ⟨h0, hx⟩
    · exact hr y hy)
  simp at this
  omega
theorem orbit_full {n : Nat} {ms : List (List Int)} (hs : Syst n ms) (hn : n ≤ 1000) (h1 : 1 ≤ n) : (orbit ms 0).length = n ↔ ∀ x : Int, 0 ≤ x → x < n → Rch ms 0 x := by
  have hm : ∀ {x : Int}, x ∈ orbit ms 0 ↔ Rch ms 0 x := mem_orbit hs (by omega) hn
  constructor
  · intro e x h0 hx
    exact hm.1 (full_mem (orbit_nodup _ _) (fun y hy => (hm.1 hy).rng hs (by omega)) e h0 hx)
  · intro ha
    have h2 : (orbit ms 0).length ≤ n := orbit_le hs (by omega) hn
    have h3 := List.Nodup.length_le_of_subset (l₁ := (List.range n).map (fun i : Nat => (i : Int))) (l₂ := orbit ms 0) (by
      exact List.pairwise_map.2 (List.nodup_range.imp fun h e => h (by omega))) (by
      intro x hx
      obtain ⟨i, hi, rfl⟩ := List.mem_map.1 hx
      have := List.mem_range.1 hi
      exact hm.2 (ha i (by omega) (by omega)))
    simp at h3
    omega
end Go.Mem

/- Plain words on lists: one orbit is marked, by a stack. No program in sight. -/
namespace Go.Mem
def negs : List Int → Nat
  | [] => 0
  | x :: xs => (if x < 0 then 1 else 0) + negs xs
theorem negs_le : ∀ L : List Int, negs L ≤ L.length
  | [] => by simp [negs]
  | x :: xs => by
    have := negs_le xs
    simp only [negs, List.length_cons]
    split <;> omega
theorem negs_set : ∀ (L : List Int) (j : Nat) (c : Int), j < L.length → gi L j < 0 → 0 ≤ c → negs (L.set j c) + 1 = negs L
  | [], j, c, h, _, _ => by simp at h
  | x :: xs, 0, c, _, hx, hc => by
    have hx' : x < 0 := by simpa [gi, List.getD] using hx
    have hc' : ¬ c < 0 := by omega
    simp [negs, hx', hc']; omega
  | x :: xs, j + 1, c, h, hx, hc => by
    have ih := negs_set xs j c (by simpa using h) (by simpa [gi, List.getD] using hx) hc
    simp only [List.set_cons_succ, negs]
    omega
theorem negs_seti {L : List Int} {j c : Int} (h0 : 0 ≤ j) (hj : j < L.length) (hn : gi L j < 0) (hc : 0 ≤ c) : negs (seti L j c) + 1 = negs L := by
  have e : ((j.toNat : Nat) : Int) = j := by omega
  exact negs_set L j.toNat c (by omega) (by rw [e]; exact hn) hc
theorem gi_seti (xs : List Int) (j k a : Int) (h0 : 0 ≤ j) (hj : j < xs.length) (hk : 0 ≤ k) : gi (seti xs j a) k = if k = j then a else gi xs k := by
  have hlt : j.toNat < xs.length := by omega
  simp only [gi, seti, List.getD, List.getElem?_set]
  by_cases h : k = j
  · subst h; simp [hlt]
  · have : ¬ j.toNat = k.toNat := by omega
    simp [h, this]
theorem list_ext_gi {xs ys : List Int} (hl : xs.length = ys.length) (h : ∀ j : Int, 0 ≤ j → j < xs.length → gi xs j = gi ys j) : xs = ys := by
  refine List.ext_getElem hl fun j h1 h2 => ?_
  have := h j (by omega) (by omega)
  simpa [gi, List.getD, h1, h2] using this

/-- On the way: x is being looked at, its first j images are marked (x = -1: nothing is). -/
structure Dfs (n : Nat) (ms : List (List Int)) (L : List Int) (c i : Int) (L' o : List Int) (x : Int) (j : Nat) : Prop where
  len : L'.length = n
  was : ∀ y : Int, 0 ≤ y → y < n → gi L' y = gi L y ∨ (gi L' y = c ∧ Rch ms i y)
  op : ∀ y ∈ o, 0 ≤ y ∧ y < n ∧ gi L' y = c
  cl : ∀ y : Int, 0 ≤ y → y < n → gi L' y = c → y ∈ o ∨ y = x ∨ ∀ m ∈ ms, gi L' (gi m y) = c
  st : gi L' i = c
  now : ∀ k : Nat, k < j → gi L' (gi (gr ms k) x) = c

section
variable {n : Nat} {ms : List (List Int)} {L L' o : List Int} {c i x : Int} {j k : Nat}
theorem Dfs.rch (h : Dfs n ms L c i L' o x j) (hL : Labs n ms k L c) {y : Int} (h0 : 0 ≤ y) (hy : y < n) (hc : gi L' y = c) : Rch ms i y := by
  rcases h.was y h0 hy with e | ⟨_, hr⟩
  · have := hL.rng y h0 hy; omega
  · exact hr
theorem Dfs.start (hL : Labs n ms k L c) (hi : 0 ≤ i ∧ i < n) : Dfs n ms L c i (seti L i c) [i] (-1) 0 := by
  have hl := hL.len
  refine ⟨by simp [hl], fun y h0 hy => ?_, fun y hy => ?_, fun y h0 hy hc => ?_, ?_, fun k hk => by omega⟩
  · rw [gi_seti _ _ _ _ hi.1 (by omega) h0]
    split
    · rename_i e; subst e; exact .inr ⟨rfl, .refl _⟩
    · exact .inl rfl
  · simp at hy; subst hy; exact ⟨hi.1, hi.2, by rw [gi_seti _ _ _ _ hi.1 (by omega) hi.1, if_pos rfl]⟩
  · rw [gi_seti _ _ _ _ hi.1 (by omega) h0] at hc
    split at hc
    · rename_i e; subst e; exact .inl (by simp)
    · have := hL.rng y h0 hy; omega
  · rw [gi_seti _ _ _ _ hi.1 (by omega) hi.1, if_pos rfl]
/-- the last of the stack is taken -/
theorem Dfs.take (h : Dfs n ms L c i L' o (-1) 0) (hne : 0 < o.length) : Dfs n ms L c i L' (o.take (o.length - 1)) (gi o (o.length - 1 : Nat)) 0 := by
  refine ⟨h.len, h.was, fun y hy => h.op y (List.mem_of_mem_take hy), fun y h0 hy hc => ?_, h.st, fun k hk => by omega⟩
  rcases h.cl y h0 hy hc with ho | hx | hm
  · obtain ⟨q, hq, rfl⟩ := in_gi ho
    by_cases hql : q = o.length - 1
    · subst hql; exact .inr (.inl rfl)
    · left
      have : gi o q = gi (o.take (o.length - 1)) q := by
        simp only [gi, List.getD]
        rw [List.getElem?_take, if_pos (by omega)]
      rw [this]
      exact gi_in (by simp; omega)
  · omega
  · exact .inr (.inr hm)
theorem Dfs.hit (h : Dfs n ms L c i L' o x j) (hL : Labs n ms k L c) (hs : Sym n ms) (hi : 0 ≤ i ∧ i < n) (hneg : gi L i < 0) (hx : 0 ≤ x ∧ x < n) (hxc : gi L' x = c) (hj : j < ms.length) (hp : ¬ gi L' (gi (gr ms j) x) < 0) :
    Dfs n ms L c i L' o x (j + 1) := by
  refine ⟨h.len, h.was, h.op, h.cl, h.st, fun q hq => ?_⟩
  by_cases hqj : q = j
  · subst hqj
    have hy := hs.syst.at (j := q) (by omega) (by omega) hx
    rcases h.was _ hy.1 hy.2 with e | ⟨e, _⟩
    · exfalso
      have hm : gr ms q ∈ ms := by simp [gr, List.getD, hj]
      have hr : Rch ms i (gi (gr ms q) x) := .step (h.rch hL hx.1 hx.2 hxc) hm
      have := hL.shut _ i hy.1 hy.2 (by omega) (hs.back i _ hi.1 hi.2 hr)
      omega
    · exact e
  · exact h.now q (by omega)
theorem Dfs.miss (h : Dfs n ms L c i L' o x j) (hL : Labs n ms k L c) (hs : Sym n ms) (hx : 0 ≤ x ∧ x < n) (hxc : gi L' x = c) (hj : j < ms.length) (hp : gi L' (gi (gr ms j) x) < 0) :
    Dfs n ms L c i (seti L' (gi (gr ms j) x) c) (o ++ [gi (gr ms j) x]) x (j + 1) := by
  have hy := hs.syst.at (j := j) (by omega) (by omega) hx
  have hm : gr ms j ∈ ms := by simp [gr, List.getD, hj]
  have hr : Rch ms i (gi (gr ms j) x) := .step (h.rch hL hx.1 hx.2 hxc) hm
  have hl := h.len
  have hc0 := hL.c0
  generalize hyy : gi (gr ms j) x = y at *
  have g : ∀ z : Int, 0 ≤ z → gi (seti L' y c) z = if z = y then c else gi L' z := fun z h0 => gi_seti _ _ _ _ hy.1 (by omega) h0
  have up : ∀ z : Int, 0 ≤ z → gi L' z = c → gi (seti L' y c) z = c := fun z h0 hz => by rw [g z h0]; split; rfl; exact hz
  refine ⟨by simp [hl], fun z h0 hz => ?_, fun z hz => ?_, fun z h0 hz hc => ?_, ?_, fun q hq => ?_⟩
  · rw [g z h0]
    split
    · rename_i e; subst e; exact .inr ⟨rfl, hr⟩
    · exact h.was z h0 hz
  · rcases List.mem_append.1 hz with hz | hz
    · obtain ⟨a, b, e⟩ := h.op z hz
      exact ⟨a, b, up z a e⟩
    · simp at hz; subst hz; exact ⟨hy.1, hy.2, by rw [g z hy.1, if_pos rfl]⟩
  · rw [g z h0] at hc
    by_cases e : z = y
    · subst e; exact .inl (by simp)
    · rw [if_neg e] at hc
      rcases h.cl z h0 hz hc with h1 | h1 | h1
      · exact .inl (List.mem_append_left _ h1)
      · exact .inr (.inl h1)
      · exact .inr (.inr fun m hm => up _ (hs.syst.mem hm ⟨h0, hz⟩).1 (h1 m hm))
  · have hst := h.st
    by_cases hi0 : 0 ≤ i
    · exact up i hi0 hst
    · have e : gi (seti L' y c) i = gi (seti L' y c) 0 := by
        have : i.toNat = (0 : Int).toNat := by omega
        simp [gi, this]
      have e' : gi L' i = gi L' 0 := by
        have : i.toNat = (0 : Int).toNat := by omega
        simp [gi, this]
      rw [e]; exact up 0 (by omega) (by omega)
  · by_cases hqj : q = j
    · subst hqj; rw [hyy, g y hy.1, if_pos rfl]
    · have := h.now q (by omega)
      have hq' := hs.syst.at (j := q) (x := x) (by omega) (by omega) hx
      exact up _ hq'.1 this
/-- all images are marked -/
theorem Dfs.next (h : Dfs n ms L c i L' o x ms.length) : Dfs n ms L c i L' o (-1) 0 := by
  refine ⟨h.len, h.was, h.op, fun y h0 hy hc => ?_, h.st, fun k hk => by omega⟩
  rcases h.cl y h0 hy hc with h1 | h1 | h1
  · exact .inl h1
  · subst h1
    refine .inr (.inr fun m hm => ?_)
    obtain ⟨q, hq, e⟩ := List.mem_iff_getElem.1 hm
    have := h.now q hq
    simpa [gr, List.getD, hq, e] using this
  · exact .inr (.inr h1)
theorem Dfs.done (h : Dfs n ms L c i L' [] (-1) 0) (hL : Labs n ms k L c) (hs : Sym n ms) (hn : n ≤ 1000) (hi : 0 ≤ i ∧ i < n) : L' = lab1 ms L c i := by
  have hmem : ∀ {x : Int}, x ∈ orbit ms i ↔ Rch ms i x := mem_orbit hs.syst hi hn
  have hall : ∀ x : Int, Rch ms i x → gi L' x = c := fun x hr => by
    induction hr with
    | refl => exact h.st
    | step hr hm ih =>
      have hy := hr.rng hs.syst hi
      rcases h.cl _ hy.1 hy.2 ih with h1 | h1 | h1
      · simp at h1
      · omega
      · exact h1 _ hm
  refine list_ext_gi (by rw [length_lab1, hL.len, h.len]) fun x h0 hx => ?_
  have hx' : x < n := by have := h.len; omega
  rw [gi_lab1 h0 (by have := hL.len; omega)]
  by_cases hxo : x ∈ orbit ms i
  · rw [if_pos hxo]; exact hall x (hmem.1 hxo)
  · rw [if_neg hxo]
    rcases h.was x h0 hx' with e | ⟨_, hr⟩
    · exact e
    · exact absurd (hmem.2 hr) hxo
end
end Go.Mem

/- Plain words on lists: maniplexes. No program in sight. -/
namespace Go.Mem
/-- the number of flags -/
def nf (ms : List (List Int)) : Nat := (gr ms 0).length
/-- the moves a and k do the same in both orders, and never lead to the same flag -/
def FarAt (ms : List (List Int)) (a k f : Nat) : Prop := gi (gr ms k) (gi (gr ms a) f) = gi (gr ms a) (gi (gr ms k) f) ∧ gi (gr ms a) f ≠ gi (gr ms k) f
/-- a and all moves from a + 2 on, below q -/
def FarRow (ms : List (List Int)) (a q : Nat) : Prop := ∀ k : Nat, a + 2 ≤ k → k < q → ∀ f : Nat, f < nf ms → FarAt ms a k f
structure Man0 (ms : List (List Int)) : Prop where
  r1 : 1 ≤ ms.length
  r5 : ms.length ≤ 5
  f2 : 2 ≤ nf ms
  f400 : nf ms ≤ 400
  row : ∀ i : Nat, i < ms.length → (gr ms i).length = nf ms ∧ IsPerm (gr ms i) ∧ IsFree (gr ms i)
  far : ∀ i < ms.length, FarRow ms i ms.length
structure IsMan (ms : List (List Int)) : Prop where
  m0 : Man0 ms
  one : (orbit ms 0).length = nf ms
noncomputable instance (ms : List (List Int)) : Decidable (IsMan ms) := Classical.propDecidable _

theorem mem_gr {ms : List (List Int)} {m : List Int} (h : m ∈ ms) : ∃ i : Nat, i < ms.length ∧ gr ms i = m := by
  obtain ⟨i, hi, e⟩ := List.mem_iff_getElem.1 h
  exact ⟨i, hi, by simp [gr, List.getD, hi, e]⟩
theorem Man0.syst {ms : List (List Int)} (h : Man0 ms) : Syst (nf ms) ms := by
  intro m hm
  obtain ⟨i, hi, rfl⟩ := mem_gr hm
  have := h.row i hi
  exact ⟨this.1, fun x hx => by rw [← this.1]; exact this.2.1.2.1 x hx⟩
theorem Man0.twice {ms : List (List Int)} (h : Man0 ms) {m : List Int} (hm : m ∈ ms) {x : Int} (hx : 0 ≤ x ∧ x < nf ms) : gi m (gi m x) = x := by
  obtain ⟨i, hi, rfl⟩ := mem_gr hm
  have hr := h.row i hi
  have := (hr.2.2 x.toNat (by omega)).2
  have e : (x.toNat : Int) = x := by omega
  rwa [e] at this
theorem Rch.head {ms : List (List Int)} {m : List Int} {x y : Int} (hm : m ∈ ms) (h : Rch ms (gi m x) y) : Rch ms x y := (Rch.step (.refl x) hm).trans h
theorem sym_of_twice {n : Nat} {ms : List (List Int)} (hs : Syst n ms) (h2 : ∀ m ∈ ms, ∀ x : Int, 0 ≤ x ∧ x < n → gi m (gi m x) = x) : Sym n ms := by
  refine ⟨hs, fun x y h0 hx hr => ?_⟩
  induction hr with
  | refl => exact .refl _
  | @step y m hr hm ih =>
    have hy := hr.rng hs ⟨h0, hx⟩
    refine Rch.head (m := m) hm ?_
    rw [h2 m hm y hy]
    exact ih
theorem Man0.sym {ms : List (List Int)} (h : Man0 ms) : Sym (nf ms) ms := sym_of_twice h.syst fun _ hm _ hx => h.twice hm hx
theorem Man0.conn {ms : List (List Int)} (h : Man0 ms) : (orbit ms 0).length = nf ms ↔ labc (nf ms) ms = 1 := by
  have h2 := h.f2
  have h4 := h.f400
  rw [orbit_full h.syst (by omega) (by omega), labc_one h.sym (by omega) (by omega)]
theorem IsMan.syst {ms : List (List Int)} (h : IsMan ms) : Syst (nf ms) ms := h.m0.syst
theorem IsMan.sym {ms : List (List Int)} (h : IsMan ms) : Sym (nf ms) ms := h.m0.sym
theorem IsMan.all {ms : List (List Int)} (h : IsMan ms) {x : Int} (h0 : 0 ≤ x) (hx : x < nf ms) : Rch ms 0 x := by
  have h2 := h.m0.f2
  have h4 := h.m0.f400
  exact (orbit_full h.syst (by omega) (by omega)).1 h.one x h0 hx
theorem gr_drop {ms : List (List Int)} {q j : Nat} : gr (ms.drop q) j = gr ms (q + j : Nat) := by
  simp only [gr, List.getD, List.getElem?_drop]
  congr 2
end Go.Mem

/- Plain words on lists: the map that gives the flag 0 a flag, and agrees with the moves. No program in sight. -/
namespace Go.Mem
abbrev MapSt := Option (List Int × List Int)
def mapStep (s : MapSt) (a : Int × Int) : MapSt :=
  match s with
  | none => none
  | some (o, r) => if gi o a.1 < 0 then some (seti o a.1 a.2, r ++ [a.1]) else if gi o a.1 = a.2 then some (o, r) else none
def pairs (ms ks : List (List Int)) (o : List Int) (f : Int) : List (Int × Int) := (List.range ms.length).map fun j : Nat => (gi (gr ms j) f, gi (gr ks j) (gi o f))
def mapRow (ms ks : List (List Int)) (o r : List Int) (f : Int) : MapSt := (pairs ms ks o f).foldl mapStep (some (o, r))
def mbfs (ms ks : List (List Int)) (flag : Int) : Nat → MapSt
  | 0 => some (seti (List.replicate (nf ms) (-1)) 0 flag, [0])
  | i + 1 => match mbfs ms ks flag i with
    | none => none
    | some (o, r) => if i < r.length then mapRow ms ks o r (gi r i) else some (o, r)
/-- The map that gives the flag 0 a flag, and agrees with the moves, if there is one. -/
def mapTo (ms ks : List (List Int)) (flag : Int) : Option (List Int) := (mbfs ms ks flag 1000).map (·.1)

section
variable {ms ks : List (List Int)} {flag : Int} {o r o' r' : List Int} {i j : Nat}
theorem foldl_none (l : List (Int × Int)) : l.foldl mapStep none = none := by
  induction l with
  | nil => rfl
  | cons a l ih => simpa [List.foldl, mapStep] using ih
theorem mbfs_stable (h : mbfs ms ks flag i = some (o, r)) (hl : r.length ≤ i) : ∀ d, mbfs ms ks flag (i + d) = some (o, r)
  | 0 => h
  | d + 1 => by
    have ih := mbfs_stable h hl d
    show (match mbfs ms ks flag (i + d) with | none => none | some (o, r) => _) = _
    rw [ih]
    show (if i + d < r.length then _ else _) = _
    rw [if_neg (by omega)]
theorem mbfs_none (h : mbfs ms ks flag i = none) : ∀ d, mbfs ms ks flag (i + d) = none
  | 0 => h
  | d + 1 => by
    have ih := mbfs_none h d
    show (match mbfs ms ks flag (i + d) with | none => none | some (o, r) => _) = _
    rw [ih]
theorem mapTo_some (h : mbfs ms ks flag i = some (o, r)) (hl : r.length ≤ i) (hi : i ≤ 1000) : mapTo ms ks flag = some o := by
  have := mbfs_stable h hl (1000 - i)
  rw [show i + (1000 - i) = 1000 by omega] at this
  simp [mapTo, this]
theorem mapTo_none (h : mbfs ms ks flag i = none) (hi : i ≤ 1000) : mapTo ms ks flag = none := by
  have := mbfs_none h (1000 - i)
  rw [show i + (1000 - i) = 1000 by omega] at this
  simp [mapTo, this]
theorem mbfs_succ (h : mbfs ms ks flag i = some (o, r)) (hl : i < r.length) : mbfs ms ks flag (i + 1) = mapRow ms ks o r (gi r i) := by
  show (match mbfs ms ks flag i with | none => none | some (o, r) => _) = _
  rw [h]
  show (if i < r.length then _ else _) = _
  rw [if_pos hl]

/-- on the way -/
structure Mp (n n2 : Nat) (o r : List Int) : Prop where
  len : o.length = n
  rng : ∀ x : Int, 0 ≤ x → x < n → -1 ≤ gi o x ∧ gi o x < n2
  rr : ∀ x ∈ r, 0 ≤ x ∧ x < n ∧ 0 ≤ gi o x
  cnt : r.length + negs o = n
theorem Mp.le {n n2 : Nat} (h : Mp n n2 o r) : r.length ≤ n := by have := h.cnt; omega
theorem negs_replicate : ∀ n : Nat, negs (List.replicate n (-1)) = n
  | 0 => rfl
  | n + 1 => by
    have := negs_replicate n
    simp [List.replicate_succ, negs, this]; omega
theorem Mp.start {n n2 : Nat} (hn : 1 ≤ n) (hf : 0 ≤ flag ∧ flag < n2) : Mp n n2 (seti (List.replicate n (-1)) 0 flag) [0] := by
  have g : ∀ x : Int, 0 ≤ x → x < n → gi (List.replicate n (-1 : Int)) x = -1 := fun x h0 hx => by
    have : x.toNat < n := by omega
    simp [gi, List.getD, this]
  have g' : ∀ x : Int, 0 ≤ x → x < n → gi (seti (List.replicate n (-1)) 0 flag) x = if x = 0 then flag else -1 := fun x h0 hx => by
    rw [gi_seti _ _ _ _ (by omega) (by simp; omega) h0]
    split
    · rfl
    · exact g x h0 hx
  refine ⟨by simp, fun x h0 hx => ?_, fun x hx => ?_, ?_⟩
  · rw [g' x h0 hx]; split <;> omega
  · simp at hx; subst hx; refine ⟨by omega, by omega, ?_⟩; rw [g' 0 (by omega) (by omega), if_pos rfl]; exact hf.1
  · have := negs_seti (L := List.replicate n (-1)) (j := 0) (c := flag) (by omega) (by simp; omega) (by rw [g 0 (by omega) (by omega)]; omega) hf.1
    rw [negs_replicate] at this
    simp; omega
theorem Mp.push {n n2 : Nat} (h : Mp n n2 o r) {x y : Int} (hx : 0 ≤ x ∧ x < n) (hy : 0 ≤ y ∧ y < n2) (hn : gi o x < 0) : Mp n n2 (seti o x y) (r ++ [x]) := by
  have hl := h.len
  have g : ∀ z : Int, 0 ≤ z → gi (seti o x y) z = if z = x then y else gi o z := fun z h0 => gi_seti _ _ _ _ hx.1 (by omega) h0
  refine ⟨by simp [hl], fun z h0 hz => ?_, fun z hz => ?_, ?_⟩
  · rw [g z h0]
    split
    · omega
    · exact h.rng z h0 hz
  · rcases List.mem_append.1 hz with hz | hz
    · obtain ⟨a, b, c⟩ := h.rr z hz
      refine ⟨a, b, ?_⟩
      rw [g z a]; split <;> omega
    · simp at hz; subst hz; refine ⟨hx.1, hx.2, ?_⟩; rw [g z hx.1, if_pos rfl]; exact hy.1
  · have := negs_seti (L := o) (j := x) (c := y) hx.1 (by omega) hn hy.1
    have := h.cnt
    simp; omega

/-- the first j images of f are laid -/
structure Row (ms ks : List (List Int)) (o r : List Int) (f : Int) (j : Nat) (o' r' : List Int) : Prop where
  eq : ((pairs ms ks o f).take j).foldl mapStep (some (o, r)) = some (o', r')
  same : gi o' f = gi o f
  pre : ∃ e, r' = r ++ e
theorem length_pairs (ms ks : List (List Int)) (o : List Int) (f : Int) : (pairs ms ks o f).length = ms.length := by simp [pairs]
theorem pairs_take {f : Int} (hj : j < ms.length) : (pairs ms ks o f).take (j + 1) = (pairs ms ks o f).take j ++ [(gi (gr ms j) f, gi (gr ks j) (gi o f))] := by
  rw [List.take_succ_eq_append_getElem (by rw [length_pairs]; exact hj)]
  simp [pairs]
theorem Row.start (ms ks : List (List Int)) (o r : List Int) (f : Int) : Row ms ks o r f 0 o r := ⟨by simp, rfl, [], by simp⟩
theorem Row.push {f : Int} (h : Row ms ks o r f j o' r') (hj : j < ms.length) (hf : 0 ≤ f) (hfm : 0 ≤ gi o f) (hx : 0 ≤ gi (gr ms j) f ∧ gi (gr ms j) f < o'.length) (hn : gi o' (gi (gr ms j) f) < 0) :
    Row ms ks o r f (j + 1) (seti o' (gi (gr ms j) f) (gi (gr ks j) (gi o' f))) (r' ++ [gi (gr ms j) f]) := by
  have hs := h.same
  refine ⟨?_, ?_, ?_⟩
  · rw [pairs_take hj, List.foldl_append, h.eq]
    simp only [List.foldl, mapStep]
    rw [if_pos hn, hs]
  · rw [gi_seti _ _ _ _ hx.1 hx.2 hf]
    split
    · rename_i e; rw [← e, hs] at hn; omega
    · exact hs
  · obtain ⟨e, he⟩ := h.pre
    exact ⟨e ++ [gi (gr ms j) f], by rw [he, List.append_assoc]⟩
theorem Row.hit {f : Int} (h : Row ms ks o r f j o' r') (hj : j < ms.length) (hn : ¬ gi o' (gi (gr ms j) f) < 0) (he : ¬ gi o' (gi (gr ms j) f) ≠ gi (gr ks j) (gi o' f)) : Row ms ks o r f (j + 1) o' r' := by
  have hs := h.same
  refine ⟨?_, hs, h.pre⟩
  rw [pairs_take hj, List.foldl_append, h.eq]
  simp only [List.foldl, mapStep]
  rw [if_neg hn, if_pos (by rw [← hs]; exact Decidable.not_not.1 he)]
theorem Row.fail {f : Int} (h : Row ms ks o r f j o' r') (hj : j < ms.length) (hn : ¬ gi o' (gi (gr ms j) f) < 0) (he : gi o' (gi (gr ms j) f) ≠ gi (gr ks j) (gi o' f)) : mapRow ms ks o r f = none := by
  have hs := h.same
  unfold mapRow
  rw [← List.take_append_drop (j + 1) (pairs ms ks o f), List.foldl_append, pairs_take hj, List.foldl_append, h.eq]
  simp only [List.foldl, mapStep]
  rw [if_neg hn, if_neg (by rw [← hs]; exact he)]
  exact foldl_none _
theorem Row.done {f : Int} (h : Row ms ks o r f ms.length o' r') : mapRow ms ks o r f = some (o', r') := by
  unfold mapRow
  have := h.eq
  rwa [List.take_of_length_le (by rw [length_pairs]; exact Nat.le_refl _)] at this
theorem gi_pre {e : List Int} (h : i < r.length) : gi (r ++ e) i = gi r i := gi_append_left (by omega) (by omega)
end

/-- The covering that gives the flag 0 a flag. -/
def mapT (ms ks : List (List Int)) (flag : Int) : Option (List Int) := if ms.length = ks.length then mapTo ms ks flag else none
/-- All coverings, in the order of what they give the flag 0. -/
def covers (ms ks : List (List Int)) (n : Nat) : List (List Int) := (List.range n).filterMap fun f : Nat => mapT ms ks f
theorem covers_zero (ms ks : List (List Int)) : covers ms ks 0 = [] := rfl
theorem covers_some {ms ks : List (List Int)} {n : Nat} {p : List Int} (h : mapT ms ks n = some p) : covers ms ks (n + 1) = covers ms ks n ++ [p] := by
  unfold covers
  rw [List.range_succ, List.filterMap_append, List.filterMap_cons, h]
  rfl
theorem covers_none {ms ks : List (List Int)} {n : Nat} (h : mapT ms ks n = none) : covers ms ks (n + 1) = covers ms ks n := by
  unfold covers
  rw [List.range_succ, List.filterMap_append, List.filterMap_cons, h]
  simp
theorem covers_le (ms ks : List (List Int)) (n : Nat) : (covers ms ks n).length ≤ n := by
  unfold covers
  have := List.length_filterMap_le (fun f : Nat => mapT ms ks f) (List.range n)
  simpa using this
theorem covers_pre (ms ks : List (List Int)) (n d : Nat) : ∃ e, covers ms ks (n + d) = covers ms ks n ++ e := by
  induction d with
  | zero => exact ⟨[], by simp⟩
  | succ d ih =>
    obtain ⟨e, he⟩ := ih
    cases h : mapT ms ks (n + d : Nat) with
    | none => exact ⟨e, by rw [show n + (d + 1) = (n + d) + 1 from rfl, covers_none h, he]⟩
    | some p => exact ⟨e ++ [p], by rw [show n + (d + 1) = (n + d) + 1 from rfl, covers_some h, he, List.append_assoc]⟩
/-- The first isomorphism. -/
def isoOf (ms ks : List (List Int)) : Option (List Int) := if nf ms = nf ks then (covers ms ks (nf ks)).head? else none
theorem covers_far {ms ks : List (List Int)} (h : ms.length ≠ ks.length) : ∀ n, covers ms ks n = []
  | 0 => rfl
  | n + 1 => by rw [covers_none (by unfold mapT; rw [if_neg h]), covers_far h n]
theorem isoOf_far {ms ks : List (List Int)} (h : ¬ (ms.length = ks.length ∧ nf ms = nf ks)) : isoOf ms ks = none := by
  unfold isoOf
  split
  · rename_i e
    rw [covers_far (fun e' => h ⟨e', e⟩)]
    rfl
  · rfl
theorem isoOf_hit {ms ks : List (List Int)} (h : nf ms = nf ks) {f : Nat} (hf : f < nf ks) {p : List Int} (h0 : covers ms ks f = []) (hp : mapT ms ks f = some p) : isoOf ms ks = some p := by
  unfold isoOf
  rw [if_pos h]
  obtain ⟨e, he⟩ := covers_pre ms ks (f + 1) (nf ks - (f + 1))
  rw [show f + 1 + (nf ks - (f + 1)) = nf ks by omega] at he
  rw [he, covers_some hp, h0]
  rfl
theorem isoOf_miss {ms ks : List (List Int)} (h0 : covers ms ks (nf ks) = []) : isoOf ms ks = none := by
  unfold isoOf
  rw [h0]
  split <;> rfl
end Go.Mem

/- Plain words: what the laws' own helpers say. No program in sight. -/
namespace Go.Mem
open Go.RowKit
theorem SV.le {v : Value} {m : Nat} (h : SV v m) : m ≤ 9223372036854775807 := by
  obtain ⟨_, _, _, _, h2⟩ := h.out
  simpa [maxLen] using h2
/-- z is what is left of 'left' behind the rows -/
structure SzR (xss : List (List Int)) (left z : Int) : Prop where
  lo : -1 ≤ z
  hi : z ≤ left
  all : 0 ≤ z → (xss.length : Int) ≤ left ∧ ∀ xs ∈ xss, (xs.length : Int) ≤ left
theorem gr_in {xss : List (List Int)} {j : Nat} (h : j < xss.length) : gr xss j ∈ xss := by simp [gr, List.getD, h]
theorem rows_ext {xss yss : List (List Int)} (hl : xss.length = yss.length) (h : ∀ j : Nat, j < xss.length → gr xss j = gr yss j) : xss = yss := by
  refine List.ext_getElem hl fun j h1 h2 => ?_
  have := h j h1
  simpa [gr, List.getD, h1, h2] using this

/-- what is written elsewhere leaves them alone -/
theorem OM.kept {w w' : World} {B E : Nat} {T U : TypeId} {v : Value} {xss : List (List Int)} {g : Nat} (h : OM w B E T U v xss) (hg : w.grownBy w' (some g)) (hB : g < B) : OM w' B E T U v xss := by
  obtain ⟨vs, h1, h2, h3, h4, h5, h6⟩ := h.out
  have ne : ∀ (u : Value) (l : ∀ k, u.ownBlock = some k → B ≤ k ∧ k < w.heap.size), u.ownBlock = none ∨ u.ownBlock ≠ some g := fun u l => by
    cases e : u.ownBlock with
    | none => exact .inl rfl
    | some k => refine .inr fun e' => ?_; cases e'; have := (l g e).1; omega
  exact ⟨vs, h1.kept hg (ne _ h1.lt), h2, h3, fun i u xs hu hx => (h4 i u xs hu hx).kept hg (ne _ (h4 i u xs hu hx).lt), h5, h6⟩
/-- the first i rows lie there: each owned, in its own block below E; the rest is untouched -/
structure OMp (w : World) (B E : Nat) (T U : TypeId) (v : Value) (m : Nat) (xss : List (List Int)) : Prop where
  out : ∃ vs, Own w B T v vs ∧ (∀ u ∈ vs, u.oneCell' = true) ∧ vs.length = m ∧ xss.length ≤ m ∧ (∀ (i : Nat) u xs, vs[i]? = some u → xss[i]? = some xs → OI w B U u xs) ∧
    (∀ (i : Nat) u, i < xss.length → vs[i]? = some u → ∀ g, u.ownBlock = some g → g < E) ∧
    ∀ (i j : Nat) u u', i < j → j < xss.length → vs[i]? = some u → vs[j]? = some u' → u.ownBlock = none ∨ u.ownBlock ≠ u'.ownBlock
section
variable {w w' : World} {B E : Nat} {T U : TypeId} {v : Value} {xss : List (List Int)} {m : Nat}
theorem OMp.sv (h : OMp w B E T U v m xss) : SV v m := by
  obtain ⟨vs, h1, _, h3, _⟩ := h.out
  exact h3 ▸ h1.rd.sv
theorem OMp.below (h : OMp w B E T U v m xss) (hb : Below w.heap.size w w') : OMp w' B E T U v m xss := by
  obtain ⟨vs, h1, h2, h3, h3', h4, h5, h6⟩ := h.out
  exact ⟨vs, h1.below hb, h2, h3, h3', fun i u xs hu hx => (h4 i u xs hu hx).below hb, h5, h6⟩
theorem OMp.start {z : Value} (h : Own w B T v (List.replicate m z)) (hz : z.oneCell' = true) : OMp w B E T U v m [] :=
  ⟨_, h, by intro u hu; rw [(List.mem_replicate.1 hu).2]; exact hz, by simp, by simp, by simp, by simp, by simp⟩
theorem OMp.wide {E' : Nat} (h : OMp w B E T U v m xss) (hE : E ≤ E') : OMp w B E' T U v m xss := by
  obtain ⟨vs, h1, h2, h3, h3', h4, h5, h6⟩ := h.out
  exact ⟨vs, h1, h2, h3, h3', h4, fun i u hi hu g hg => Nat.lt_of_lt_of_le (h5 i u hi hu g hg) hE, h6⟩
theorem OMp.done (h : OMp w B E T U v m xss) (hm : xss.length = m) : OM w B E T U v xss := by
  obtain ⟨vs, h1, h2, h3, h3', h4, h5, h6⟩ := h.out
  refine ⟨vs, h1, h2, by omega, h4, fun i u hu => h5 i u ?_ hu, fun i j u u' hij hu hu' => h6 i j u u' hij ?_ hu hu'⟩
  · have := (List.getElem?_eq_some_iff.1 hu).1; omega
  · have := (List.getElem?_eq_some_iff.1 hu').1; omega
theorem OMp.below_of (h : OMp w B E T U v m xss) (hg : w.grownBy w' v.ownBlock) (hB : B ≤ w.heap.size) : Below B w w' := by
  obtain ⟨vs, h1, _⟩ := h.out
  exact grownBy_below hg hB (fun k hk => (h1.lt k hk).1)
theorem s_storeM {P : Program} {ops : Array Oper} {Q : Exit → Fm → World → Prop} {n : Nat} {f : Fm} {rest : List Oper} {ty : TypeId} {pos : String} {after : Array Edge} {g : Option (Nat × Bool)}
    {z : Value} {bytes : Nat} [he : CellTy P T z bytes] {x y : Operand} {u : Value} {xs : List Int} {j : Int}
    (hw : Wants ⟨none, .store T x y, ty, pos, after, g⟩ ops n f)
    (hx : lk n f x = some (.pointer (some (addrOf v j.toNat)))) (hy : lk n f y = some u) (hv : OMp w B E T U v m xss) (hu : OI w E U u xs) (hBE : B ≤ E) (hT : T ≠ U) (hj : j = xss.length) (hm : xss.length < m)
    (k : ∀ w', OMp w' B w'.heap.size T U v m (xss ++ [xs]) → w.grownBy w' v.ownBlock → WL P ops Q rest n f w') :
    WL P ops Q (⟨none, .store T x y, ty, pos, after, g⟩ :: rest) n f w := by
  obtain ⟨vs, h1, h2, h3, h3', h4, h5, h6⟩ := hv.out
  have hjn : j.toNat = xss.length := by omega
  refine s_store hw hx hy hu.sv.one h1 (by omega) fun w' ho hg => k w' ?_ hg
  rw [hjn] at ho
  have hsz := hg.size
  have old : ∀ (i : Nat) a, i < xss.length → (vs.set xss.length u)[i]? = some a → vs[i]? = some a := fun i a hi ha => by
    rwa [List.getElem?_set, if_neg (by omega)] at ha
  have new : ∀ a, (vs.set xss.length u)[xss.length]? = some a → a = u := fun a ha => by
    rw [List.getElem?_set, if_pos rfl, if_pos (by omega)] at ha
    simpa using ha.symm
  refine ⟨_, ho, ?_, by simpa using h3, by simp; omega, ?_, ?_, ?_⟩
  · intro a ha
    rcases List.mem_or_eq_of_mem_set ha with ha | ha
    · exact h2 a ha
    · subst ha; exact hu.sv.one
  · intro i a ys ha hys
    rw [List.getElem?_append] at hys
    split at hys
    · rename_i hlt
      have hr := h4 i a ys (old i a hlt ha) hys
      exact hr.kept hg (hr.own.apart_type h1 (fun e => hT e.symm))
    · rename_i hlt
      have hi : i = xss.length := by
        have := (List.getElem?_eq_some_iff.1 hys).1
        simp at this; omega
      subst hi
      simp at hys
      subst hys
      obtain rfl := new a ha
      exact (hu.mono hBE).kept hg (hu.own.apart_type h1 (fun e => hT e.symm))
  · intro i a hi ha g' hg'
    simp at hi
    by_cases hlt : i < xss.length
    · have hxi : xss[i]? = some xss[i] := by simp [hlt]
      have := ((h4 i a _ (old i a hlt ha) hxi).lt g' hg').2
      omega
    · obtain rfl : i = xss.length := by omega
      obtain rfl := new a ha
      have := (hu.lt g' hg').2
      omega
  · intro i i' a b hii hi' ha hb
    simp at hi'
    by_cases hlt : i' < xss.length
    · exact h6 i i' a b hii hlt (old i a (by omega) ha) (old i' b hlt hb)
    · obtain rfl : i' = xss.length := by omega
      obtain rfl := new b hb
      cases e1 : a.ownBlock with
      | none => exact .inl rfl
      | some g1 =>
        refine .inr fun e2 => ?_
        have := h5 i a (by omega) (old i a (by omega) ha) g1 e1
        have := (hu.lt g1 e2.symm).1
        omega
end
end Go.Mem

/- Plain words on lists: coverings have a flag for each flag. No program in sight. -/
namespace Go.Mem
section
variable {ms ks : List (List Int)} {flag : Int} {n : Nat}
theorem mapStep_len {s : MapSt} {a : Int × Int} (h : ∀ o r, s = some (o, r) → o.length = n) : ∀ o r, mapStep s a = some (o, r) → o.length = n := by
  intro o r
  unfold mapStep
  cases s with
  | none => simp
  | some q =>
    obtain ⟨o', r'⟩ := q
    have h' := h o' r' rfl
    simp only
    split
    · intro e; simp at e; rw [← e.1]; simpa using h'
    · split
      · intro e; simp at e; rw [← e.1]; exact h'
      · simp
theorem fold_len (l : List (Int × Int)) : ∀ {s : MapSt}, (∀ o r, s = some (o, r) → o.length = n) → ∀ o r, l.foldl mapStep s = some (o, r) → o.length = n := by
  induction l with
  | nil => intro s h; exact h
  | cons a l ih => intro s h; exact ih (mapStep_len h)
theorem mbfs_len : ∀ (i : Nat) o r, mbfs ms ks flag i = some (o, r) → o.length = nf ms
  | 0, o, r, h => by
    simp only [mbfs, Option.some.injEq, Prod.mk.injEq] at h
    rw [← h.1]; simp
  | i + 1, o, r, h => by
    have ih := mbfs_len i
    unfold mbfs at h
    split at h
    · simp at h
    · rename_i o' r' e
      have h' := ih o' r' e
      split at h
      · exact fold_len _ (fun o r e => by simp at e; rw [← e.1]; exact h') o r h
      · simp at h; rw [← h.1]; exact h'
theorem mapTo_len {p : List Int} (h : mapTo ms ks flag = some p) : p.length = nf ms := by
  unfold mapTo at h
  rw [Option.map_eq_some_iff] at h
  obtain ⟨⟨o, r⟩, h1, h2⟩ := h
  have := mbfs_len _ o r h1
  rw [← h2]; exact this
theorem mapT_len {p : List Int} (h : mapT ms ks flag = some p) : p.length = nf ms := by
  unfold mapT at h
  split at h
  · exact mapTo_len h
  · simp at h
theorem covers_mem {p : List Int} (h : p ∈ covers ms ks n) : ∃ f : Nat, f < n ∧ mapT ms ks f = some p := by
  unfold covers at h
  obtain ⟨f, hf, e⟩ := List.mem_filterMap.1 h
  exact ⟨f, List.mem_range.1 hf, e⟩
theorem covers_ne (hm : IsMan ms) : ∀ xs ∈ covers ms ks n, xs ≠ [] := by
  intro xs hx e
  obtain ⟨f, _, hf⟩ := covers_mem hx
  have := mapT_len hf
  have := hm.m0.f2
  subst e
  simp at this
  omega
end
end Go.Mem

/- Plain words: marks. Lists of lists that are owned: a row is written. -/
namespace Go.Mem
open Go.RowKit
def iota (k : Int) (n : Nat) : List Int := (List.range n).map fun j : Nat => k + j
@[simp] theorem length_iota (k : Int) (n : Nat) : (iota k n).length = n := by simp [iota]
theorem gi_iota {k : Int} {n : Nat} {j : Int} (h0 : 0 ≤ j) (hj : j < n) : gi (iota k n) j = k + j := by
  unfold iota
  rw [gi_range_map h0 hj]
  congr 1
  omega
/-- how many numbers the rows hold -/
def tot : List (List Int) → Int
  | [] => 0
  | xs :: r => xs.length + tot r
def mkRows : List (List Int) → Int → List (List Int)
  | [], _ => []
  | xs :: r, k => iota k xs.length :: mkRows r (k + xs.length)
theorem length_mkRows : ∀ (xss : List (List Int)) (k : Int), (mkRows xss k).length = xss.length
  | [], _ => rfl
  | xs :: r, k => by simp [mkRows, length_mkRows r]
theorem tot_nonneg : ∀ xss : List (List Int), 0 ≤ tot xss
  | [] => by simp [tot]
  | xs :: r => by have := tot_nonneg r; simp [tot]; omega
theorem tot_take_succ : ∀ (xss : List (List Int)) (i : Nat), i < xss.length → tot (xss.take (i + 1)) = tot (xss.take i) + (gr xss i).length
  | [], i, h => by simp at h
  | xs :: r, 0, _ => by simp [tot, gr, List.getD]
  | xs :: r, i + 1, h => by
    have := tot_take_succ r i (by simpa using h)
    have e : gr (xs :: r) ((i + 1 : Nat) : Int) = gr r i := by simp [gr, List.getD]
    rw [e]
    simp only [List.take_succ_cons, tot]
    omega
theorem tot_take_le : ∀ (xss : List (List Int)) (i : Nat), tot (xss.take i) ≤ tot xss
  | [], i => by simp [tot]
  | xs :: r, 0 => by have := tot_nonneg (xs :: r); simpa [tot] using this
  | xs :: r, i + 1 => by
    have := tot_take_le r i
    simp only [List.take_succ_cons, tot]
    omega
theorem tot_le {xss : List (List Int)} {c : Int} (h : ∀ xs ∈ xss, (xs.length : Int) ≤ c) : tot xss ≤ xss.length * c := by
  induction xss with
  | nil => simp [tot]
  | cons xs r ih =>
    have h1 := ih fun ys hy => h ys (by simp [hy])
    have h2 := h xs (by simp)
    have e : ((xs :: r).length : Int) * c = r.length * c + c := by
      simp only [List.length_cons, Int.natCast_add, Int.add_mul]
      omega
    rw [e]
    simp only [tot]
    omega
theorem gr_mkRows : ∀ (xss : List (List Int)) (k : Int) (i : Nat), i < xss.length → gr (mkRows xss k) i = iota (k + tot (xss.take i)) (gr xss i).length
  | [], _, i, h => by simp at h
  | xs :: r, k, 0, _ => by simp [mkRows, gr, List.getD, tot]
  | xs :: r, k, i + 1, h => by
    have := gr_mkRows r (k + xs.length) i (by simpa using h)
    have e : gr (mkRows (xs :: r) k) ((i + 1 : Nat) : Int) = gr (mkRows r (k + xs.length)) i := by simp [gr, List.getD, mkRows]
    have e2 : gr (xs :: r) ((i + 1 : Nat) : Int) = gr r i := by simp [gr, List.getD]
    rw [e, e2, this]
    simp only [List.take_succ_cons, tot]
    congr 1
    omega

/-- between B and E something may have turned; elsewhere, of what was there, nothing -/
structure Btw (B E : Nat) (w w' : World) : Prop where
  os : w'.os = w.os
  tape : w'.tape = w.tape
  output : w'.output = w.output
  size : w.heap.size ≤ w'.heap.size
  block : ∀ k, k < w.heap.size → (k < B ∨ E ≤ k) → w'.heap[k]? = w.heap[k]?
theorem Btw.refl (B E : Nat) (w : World) : Btw B E w w := ⟨rfl, rfl, rfl, Nat.le_refl _, fun _ _ _ => rfl⟩
theorem Btw.trans {B E : Nat} {a b c : World} (h : Btw B E a b) (k : Btw B E b c) : Btw B E a c :=
  ⟨k.os.trans h.os, k.tape.trans h.tape, k.output.trans h.output, Nat.le_trans h.size k.size, fun i hi hb => (k.block i (Nat.lt_of_lt_of_le hi h.size) hb).trans (h.block i hi hb)⟩
theorem Btw.below {B E : Nat} {w w' : World} (h : Btw B E w w') (hB : B ≤ w.heap.size) : Below B w w' :=
  ⟨h.os, h.tape, h.output, h.size, fun k hk => h.block k (Nat.lt_of_lt_of_le hk hB) (.inl hk)⟩
theorem Btw.of_below {B E : Nat} {w w' : World} (h : Below w.heap.size w w') : Btw B E w w' := ⟨h.os, h.tape, h.output, h.size, fun k hk _ => h.block k hk⟩
theorem Btw.of_grown {B E : Nat} {w w' : World} {r : Option Nat} (h : w.grownBy w' r) (hr : ∀ g, r = some g → B ≤ g ∧ g < E) : Btw B E w w' :=
  ⟨h.os, h.tape, h.output, h.size, fun k hk hb => h.block k hk (by intro e; have := hr k e.symm; omega)⟩
theorem Own.btw {w w' : World} {B B' E : Nat} {T : TypeId} {v : Value} {vs : List Value} (h : Own w B' T v vs) (hb : Btw B E w w') (hE : E ≤ B') : Own w' B' T v vs :=
  h.same fun g _ hB hl => hb.block g hl (.inr (by omega))
theorem OI.btw {w w' : World} {B B' E : Nat} {T : TypeId} {v : Value} {xs : List Int} (h : OI w B' T v xs) (hb : Btw B E w w') (hE : E ≤ B') : OI w' B' T v xs := ⟨h.own.btw hb hE⟩
theorem OM.btw {w w' : World} {B B' E E' : Nat} {T U : TypeId} {v : Value} {xss : List (List Int)} (h : OM w B' E' T U v xss) (hb : Btw B E w w') (hE : E ≤ B') : OM w' B' E' T U v xss := by
  obtain ⟨vs, h1, h2, h3, h4, h5, h6⟩ := h.out
  exact ⟨vs, h1.btw hb hE, h2, h3, fun i u xs hu hx => (h4 i u xs hu hx).btw hb hE, h5, h6⟩
/-- a row, and what writing it makes of the whole -/
theorem OM.rowW {w : World} {B E : Nat} {T U : TypeId} {v : Value} {xss : List (List Int)} (h : OM w B E T U v xss) (hT : T ≠ U) {j : Int} (h0 : 0 ≤ j) (hj : j < xss.length) :
    ∃ u, OI w B U u (gr xss j) ∧ w.cell? (addrOf v j.toNat) = some u ∧ (∀ g, u.ownBlock = some g → g < E) ∧
      ∀ w' ys, OI w' B U u ys → w.grownBy w' u.ownBlock → OM w' B E T U v (xss.set j.toNat ys) := by
  obtain ⟨vs, h1, h2, h3, h4, h5, h6⟩ := h.out
  have hlt : j.toNat < vs.length := by omega
  have hlt' : j.toNat < xss.length := by omega
  have hrow := h4 j.toNat vs[j.toNat] xss[j.toNat] (by simp [hlt]) (by simp [hlt'])
  have eg : gr xss j = xss[j.toNat] := by simp [gr, List.getD, hlt']
  refine ⟨vs[j.toNat], by rw [eg]; exact hrow, h1.rd.cell (List.getElem?_eq_getElem hlt), h5 j.toNat vs[j.toNat] (List.getElem?_eq_getElem hlt), fun w' ys hys hg => ⟨vs, ?_, h2, by simpa using h3, ?_, h5, h6⟩⟩
  · exact h1.kept hg (h1.apart_type hrow.own hT)
  · intro i u xs hu hx
    rw [List.getElem?_set] at hx
    by_cases hij : j.toNat = i
    · subst hij
      rw [if_pos rfl, if_pos hlt'] at hx
      simp at hx
      subst hx
      have : u = vs[j.toNat] := by simpa [hlt] using hu.symm
      subst this
      exact hys
    · rw [if_neg hij] at hx
      have hr := h4 i u xs hu hx
      refine hr.kept hg ?_
      have hvj : vs[j.toNat]? = some vs[j.toNat] := by simp [hlt]
      by_cases hlt2 : i < j.toNat
      · exact h6 i j.toNat u _ hlt2 hu hvj
      · rcases h6 j.toNat i _ u (by omega) hvj hu with e | e
        · cases e' : u.ownBlock with
          | none => exact .inl rfl
          | some g => right; rw [e]; simp
        · right; exact fun e' => e e'.symm
end Go.Mem
