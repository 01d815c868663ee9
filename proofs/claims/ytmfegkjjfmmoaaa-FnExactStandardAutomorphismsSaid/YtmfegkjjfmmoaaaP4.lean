/- Plain words on lists: what is reached, and the numbers of the orbits. No program in sight. -/
import Derived.Test.YtmfegkjjfmmoaaaP2
namespace Go.Mem

/-- y is reached from x -/
inductive Rch (ms : List (List Int)) : Int → Int → Prop
  | refl (x : Int) : Rch ms x x
  | step {x y : Int} {m : List Int} : Rch ms x y → m ∈ ms → Rch ms x (gi m y)
theorem Rch.trans {ms : List (List Int)} {x y z : Int} (h : Rch ms x y) (k : Rch ms y z) : Rch ms x z := by
  induction k with
  | refl => exact h
  | step _ hm ih => exact .step ih hm
theorem Syst.mem {n : Nat} {ms : List (List Int)} (h : Syst n ms) {m : List Int} (hm : m ∈ ms) {x : Int} (hx : 0 ≤ x ∧ x < n) : 0 ≤ gi m x ∧ gi m x < n := by
  have := h m hm
  exact this.2 _ (gi_mem hx.1 (by omega))
theorem Rch.rng {n : Nat} {ms : List (List Int)} {x y : Int} (hs : Syst n ms) (h : Rch ms x y) (hx : 0 ≤ x ∧ x < n) : 0 ≤ y ∧ y < n := by
  induction h with
  | refl => exact hx
  | step _ hm ih => exact hs.mem hm ih

theorem mem_visit {o : List Int} {x y : Int} : y ∈ visit o x ↔ y ∈ o ∨ y = x := by
  unfold visit
  split
  · rename_i h
    constructor
    · exact .inl
    · rintro (h' | rfl); exact h'; exact h
  · simp
theorem mem_visits : ∀ {xs o : List Int} {y : Int}, y ∈ visits o xs ↔ y ∈ o ∨ y ∈ xs
  | [], o, y => by simp [visits]
  | x :: xs, o, y => by
    show y ∈ visits (visit o x) xs ↔ _
    rw [mem_visits, mem_visit, List.mem_cons]
    constructor
    · rintro ((h | h) | h)
      · exact .inl h
      · exact .inr (.inl h)
      · exact .inr (.inr h)
    · rintro (h | h | h)
      · exact .inl (.inl h)
      · exact .inl (.inr h)
      · exact .inr h
theorem nodup_visit {o : List Int} {x : Int} (h : o.Nodup) : (visit o x).Nodup := by
  unfold visit
  split
  · exact h
  · rename_i hn
    rw [List.nodup_append]
    refine ⟨h, by simp, ?_⟩
    intro a ha b hb
    simp at hb
    subst hb
    intro e
    subst e
    exact hn ha
theorem nodup_visits : ∀ {xs o : List Int}, o.Nodup → (visits o xs).Nodup
  | [], _, h => h
  | x :: xs, o, h => by
    show (visits (visit o x) xs).Nodup
    exact nodup_visits (nodup_visit h)
theorem mem_images {ms : List (List Int)} {x y : Int} : y ∈ images ms x ↔ ∃ m ∈ ms, gi m x = y := by simp [images]

theorem gi_in {xs : List Int} {j : Nat} (h : j < xs.length) : gi xs j ∈ xs := by simp [gi, List.getD, h]
theorem in_gi {xs : List Int} {x : Int} (h : x ∈ xs) : ∃ j : Nat, j < xs.length ∧ gi xs j = x := by
  obtain ⟨j, hj, e⟩ := List.mem_iff_getElem.1 h
  exact ⟨j, hj, by simp [gi, List.getD, hj, e]⟩

theorem bfs_rch {ms : List (List Int)} {p : Int} : ∀ (i : Nat) {y : Int}, y ∈ bfs ms p i → Rch ms p y
  | 0, y, h => by simp [bfs] at h; subst h; exact .refl _
  | i + 1, y, h => by
    unfold bfs at h
    split at h
    · rename_i hlt
      rcases mem_visits.1 h with h | h
      · exact bfs_rch i h
      · obtain ⟨m, hm, rfl⟩ := mem_images.1 h
        exact .step (bfs_rch i (gi_in hlt)) hm
    · exact bfs_rch i h
theorem bfs_nodup {ms : List (List Int)} {p : Int} : ∀ (i : Nat), (bfs ms p i).Nodup
  | 0 => by simp [bfs]
  | i + 1 => by
    unfold bfs
    split
    · exact nodup_visits (bfs_nodup i)
    · exact bfs_nodup i
theorem bfs_start {ms : List (List Int)} {p : Int} : ∀ (i : Nat), p ∈ bfs ms p i
  | 0 => by simp [bfs]
  | i + 1 => by
    unfold bfs
    split
    · exact mem_visits.2 (.inl (bfs_start i))
    · exact bfs_start i
theorem bfs_done {ms : List (List Int)} {p : Int} : ∀ (i j : Nat), j < i → j < (bfs ms p i).length → ∀ m ∈ ms, gi m (gi (bfs ms p i) j) ∈ bfs ms p i
  | 0, j, h, _, _, _ => by omega
  | i + 1, j, h, hj, m, hm => by
    by_cases hlt : i < (bfs ms p i).length
    · rw [bfs_succ hlt] at hj ⊢
      by_cases hji : j = i
      · subst hji
        rw [gi_visits (by omega) (by omega)]
        exact mem_visits.2 (.inr (mem_images.2 ⟨m, hm, rfl⟩))
      · rw [gi_visits (by omega) (by omega)]
        exact mem_visits.2 (.inl (bfs_done i j (by omega) (by omega) m hm))
    · have e : bfs ms p (i + 1) = bfs ms p i := by
        show (if i < (bfs ms p i).length then _ else _) = _
        rw [if_neg hlt]
      rw [e] at hj ⊢
      exact bfs_done i j (by omega) hj m hm

theorem orbit_bfs {n : Nat} {ms : List (List Int)} {p : Int} (hs : Syst n ms) (hp : 0 ≤ p ∧ p < n) (hn : n ≤ 1000) : orbit ms p = bfs ms p n ∧ (bfs ms p n).length ≤ n := by
  have hl : (bfs ms p n).length ≤ n := nodup_le (bfs_nodup n) (fun x hx => (bfs_rch n hx).rng hs hp)
  exact ⟨orbit_eq hl hn, hl⟩
theorem mem_orbit {n : Nat} {ms : List (List Int)} {p : Int} (hs : Syst n ms) (hp : 0 ≤ p ∧ p < n) (hn : n ≤ 1000) {x : Int} : x ∈ orbit ms p ↔ Rch ms p x := by
  obtain ⟨e, hl⟩ := orbit_bfs hs hp hn
  rw [e]
  refine ⟨bfs_rch n, fun h => ?_⟩
  induction h with
  | refl => exact bfs_start n
  | step _ hm ih =>
    obtain ⟨j, hj, rfl⟩ := in_gi ih
    exact bfs_done n j (by omega) hj _ hm
theorem orbit_nodup (ms : List (List Int)) (p : Int) : (orbit ms p).Nodup := bfs_nodup _
theorem orbit_le {n : Nat} {ms : List (List Int)} {p : Int} (hs : Syst n ms) (hp : 0 ≤ p ∧ p < n) (hn : n ≤ 1000) : (orbit ms p).length ≤ n := by
  obtain ⟨e, hl⟩ := orbit_bfs hs hp hn
  rw [e]; exact hl

/-! ### The numbers of the orbits -/
/-- a system whose reaching goes both ways -/
structure Sym (n : Nat) (ms : List (List Int)) : Prop where
  syst : Syst n ms
  back : ∀ x y : Int, 0 ≤ x → x < n → Rch ms x y → Rch ms y x
/-- all of the orbit of p get the number c -/
def lab1 (ms : List (List Int)) (L : List Int) (c p : Int) : List Int := (List.range L.length).map fun x : Nat => if (x : Int) ∈ orbit ms p then c else gi L x
def labsFrom (n : Nat) (ms : List (List Int)) : Nat → List Int × Int
  | 0 => (List.replicate n (-1), 0)
  | i + 1 => if gi (labsFrom n ms i).1 i < 0 then (lab1 ms (labsFrom n ms i).1 (labsFrom n ms i).2 i, (labsFrom n ms i).2 + 1) else labsFrom n ms i
/-- For each of n points the number of its orbit; how many there are. -/
def labs (n : Nat) (ms : List (List Int)) : List Int := (labsFrom n ms n).1
def labc (n : Nat) (ms : List (List Int)) : Int := (labsFrom n ms n).2

theorem gi_range_map {f : Nat → Int} {n : Nat} {x : Int} (h0 : 0 ≤ x) (hx : x < n) : gi ((List.range n).map f) x = f x.toNat := by
  have : x.toNat < n := by omega
  simp [gi, List.getD, this]
theorem gi_lab1 {ms : List (List Int)} {L : List Int} {c p x : Int} (h0 : 0 ≤ x) (hx : x < L.length) : gi (lab1 ms L c p) x = if x ∈ orbit ms p then c else gi L x := by
  unfold lab1
  rw [gi_range_map h0 hx]
  have : (x.toNat : Int) = x := by omega
  simp only [this]
theorem length_lab1 {ms : List (List Int)} {L : List Int} {c p : Int} : (lab1 ms L c p).length = L.length := by simp [lab1]

/-- What holds once the first i points have been looked at. -/
structure Labs (n : Nat) (ms : List (List Int)) (i : Nat) (L : List Int) (c : Int) : Prop where
  len : L.length = n
  c0 : 0 ≤ c ∧ c ≤ i
  rng : ∀ x : Int, 0 ≤ x → x < n → -1 ≤ gi L x ∧ gi L x < c
  done : ∀ x : Int, 0 ≤ x → x < i → x < n → 0 ≤ gi L x
  shut : ∀ x y : Int, 0 ≤ x → x < n → 0 ≤ gi L x → Rch ms x y → gi L y = gi L x
  only : ∀ x y : Int, 0 ≤ x → x < n → 0 ≤ y → y < n → 0 ≤ gi L x → gi L y = gi L x → Rch ms x y
  hit : ∀ k : Int, 0 ≤ k → k < c → ∃ x : Int, 0 ≤ x ∧ x < i ∧ x < n ∧ gi L x = k
theorem labs_inv {n : Nat} {ms : List (List Int)} (hs : Sym n ms) (hn : n ≤ 1000) : ∀ i : Nat, i ≤ n → Labs n ms i (labsFrom n ms i).1 (labsFrom n ms i).2
  | 0, _ => by
    have g : ∀ x : Int, 0 ≤ x → x < n → gi (List.replicate n (-1 : Int)) x = -1 := fun x h0 hx => by
      have : x.toNat < n := by omega
      simp [gi, List.getD, this]
    refine ⟨by simp [labsFrom], by simp [labsFrom], fun x h0 hx => ?_, fun x h0 hx => by omega, fun x y h0 hx hp _ => ?_, fun x y h0 hx _ _ hp _ => ?_, fun k h0 hk => ?_⟩
    · simp only [labsFrom]; rw [g x h0 hx]; omega
    · simp only [labsFrom] at hp; rw [g x h0 hx] at hp; omega
    · simp only [labsFrom] at hp; rw [g x h0 hx] at hp; omega
    · simp only [labsFrom] at hk; omega
  | i + 1, hi => by
    have ih := labs_inv hs hn i (by omega)
    unfold labsFrom
    split
    · rename_i hneg
      generalize (labsFrom n ms i).1 = L at *
      generalize (labsFrom n ms i).2 = c at *
      have hip : 0 ≤ (i : Int) ∧ (i : Int) < n := by omega
      have hmem : ∀ {x : Int}, x ∈ orbit ms i ↔ Rch ms i x := mem_orbit hs.syst hip hn
      have hg : ∀ x : Int, 0 ≤ x → x < n → gi (lab1 ms L c i) x = if x ∈ orbit ms i then c else gi L x := fun x h0 hx => gi_lab1 h0 (by rw [ih.len]; exact hx)
      have hc0 := ih.c0
      refine ⟨by rw [length_lab1, ih.len], by simp only; omega, fun x h0 hx => ?_, fun x h0 hx hxn => ?_, fun x y h0 hx hp hr => ?_, fun x y h0 hx hy0 hy hp he => ?_, fun k h0 hk => ?_⟩
      · simp only
        rw [hg x h0 hx]
        have := ih.rng x h0 hx
        split <;> omega
      · simp only
        rw [hg x h0 hxn]
        split
        · omega
        · rename_i hno
          by_cases hxi : x = i
          · subst hxi; exact absurd (hmem.2 (.refl _)) hno
          · exact ih.done x h0 (by omega) hxn
      · simp only at hp ⊢
        have hy := hr.rng hs.syst ⟨h0, hx⟩
        rw [hg x h0 hx] at hp ⊢
        rw [hg y hy.1 hy.2]
        by_cases hxo : x ∈ orbit ms i
        · rw [if_pos hxo, if_pos (hmem.2 ((hmem.1 hxo).trans hr))]
        · rw [if_neg hxo] at hp ⊢
          have hyo : y ∉ orbit ms i := fun h => hxo (hmem.2 ((hmem.1 h).trans (hs.back x y h0 hx hr)))
          rw [if_neg hyo]
          exact ih.shut x y h0 hx hp hr
      · simp only at hp he
        rw [hg x h0 hx] at hp he
        rw [hg y hy0 hy] at he
        have hrx := ih.rng x h0 hx
        have hry := ih.rng y hy0 hy
        by_cases hxo : x ∈ orbit ms i
        · rw [if_pos hxo] at he hp
          by_cases hyo : y ∈ orbit ms i
          · exact (hs.back i x hip.1 hip.2 (hmem.1 hxo)).trans (hmem.1 hyo)
          · rw [if_neg hyo] at he; omega
        · rw [if_neg hxo] at he hp
          by_cases hyo : y ∈ orbit ms i
          · rw [if_pos hyo] at he; omega
          · rw [if_neg hyo] at he; exact ih.only x y h0 hx hy0 hy hp he
      · simp only at hk
        by_cases hkc : k = c
        · subst hkc
          exact ⟨i, by omega, by omega, by omega, by simp only; rw [hg i hip.1 hip.2, if_pos (hmem.2 (.refl _))]⟩
        · obtain ⟨x, h0x, hxi, hxn, he⟩ := ih.hit k h0 (by omega)
          refine ⟨x, h0x, by omega, hxn, ?_⟩
          simp only
          rw [hg x h0x hxn]
          have hxo : x ∉ orbit ms i := fun h => by
            have h1 := ih.shut x i h0x hxn (by omega) (hs.back i x hip.1 hip.2 (hmem.1 h))
            omega
          rw [if_neg hxo]; exact he
    · rename_i hneg
      have hc0 := ih.c0
      refine ⟨ih.len, by omega, ih.rng, fun x h0 hx hxn => ?_, ih.shut, ih.only, fun k h0 hk => ?_⟩
      · by_cases hxi : x = i
        · subst hxi; omega
        · exact ih.done x h0 (by omega) hxn
      · obtain ⟨x, h1, h2, h3, h4⟩ := ih.hit k h0 hk
        exact ⟨x, h1, by omega, h3, h4⟩
theorem labs_all {n : Nat} {ms : List (List Int)} (hs : Sym n ms) (hn : n ≤ 1000) : Labs n ms n (labs n ms) (labc n ms) := labs_inv hs hn n (Nat.le_refl _)

theorem labc_one {n : Nat} {ms : List (List Int)} (hs : Sym n ms) (hn : n ≤ 1000) (h1 : 1 ≤ n) : labc n ms = 1 ↔ ∀ x : Int, 0 ≤ x → x < n → Rch ms 0 x := by
  have h := labs_all hs hn
  have h0 : 0 ≤ gi (labs n ms) 0 := h.done 0 (by omega) (by omega) (by omega)
  have hr0 := h.rng 0 (by omega) (by omega)
  constructor
  · intro e x hx0 hx
    have hrx := h.rng x hx0 hx
    have hdx := h.done x hx0 (by omega) hx
    exact h.only 0 x (by omega) (by omega) hx0 hx h0 (by omega)
  · intro ha
    have hc := h.c0
    by_cases hc1 : labc n ms = 1
    · exact hc1
    · obtain ⟨x, a1, _, a3, a4⟩ := h.hit 0 (by omega) (by omega)
      obtain ⟨y, b1, _, b3, b4⟩ := h.hit 1 (by omega) (by omega)
      have e1 := h.shut 0 x (by omega) (by omega) h0 (ha x a1 a3)
      have e2 := h.shut 0 y (by omega) (by omega) h0 (ha y b1 b3)
      omega
theorem full_mem {n : Nat} {o : List Int} (hn : o.Nodup) (hr : ∀ x ∈ o, 0 ≤ x ∧ x < n) (e : o.length = n) {x : Int} (h0 : 0 ≤ x) (hx : x < n) : x ∈ o := by
  refine Classical.byContradiction fun hno => ?_
  have := nodup_le (n := n) (o := x :: o) (by rw [List.nodup_cons]; exact ⟨hno, hn⟩) (by
    intro y hy
    rcases List.mem_cons.1 hy with rfl | hy
    · exact ⟨h0, hx⟩
    · exact hr y hy)
  simp at this
  omega
theorem orbit_full {n : Nat} {ms : List (List Int)} (hs : Syst n ms) (hn : n ≤ 1000) (h1 : 1 ≤ n) : (orbit ms 0).length = n ↔ ∀ x : Int, 0 ≤ x → x < n → Rch ms 0 x := by
  have hm : ∀ {x : Int}, x ∈ orbit ms 0 ↔ Rch ms 0 x := mem_orbit hs (by omega) hn
  constructor
  · intro e x h0 hx
    exact hm.1 (full_mem (orbit_nodup _ _) (fun y hy => (hm.1 hy).rng hs (by omega)) e h0 hx)
  · intro ha
    have h2 : (orbit ms 0).length ≤ n := orbit_le hs (by omega) hn
    have h3 := List.Nodup.length_le_of_subset (l₁ := (List.range n).map (fun i : Nat => (i : Int))) (l₂ := orbit ms 0) (by
      exact List.pairwise_map.2 (List.nodup_range.imp fun h e => h (by omega))) (by
      intro x hx
      obtain ⟨i, hi, rfl⟩ := List.mem_map.1 hx
      have := List.mem_range.1 hi
      exact hm.2 (ha i (by omega) (by omega)))
    simp at h3
    omega
end Go.Mem
