/- Plain words on lists: mixes. No program in sight. -/
import Derived.Test.YtlodnhflfijomaaP20
import Derived.Test.YtlodnhflfijomaaPC
namespace Go.Mem
set_option linter.unusedVariables false
section
variable {ms ks : List (List Int)} {f g : Int}
/-- the moves on pairs, a pair told by one number -/
def prodM (ms ks : List (List Int)) : List (List Int) := (List.range ms.length).map fun j : Nat => (List.range (nf ms * nf ks)).map fun c : Nat => gi (gr ms j) ((c : Int) / nf ks) * nf ks + gi (gr ks j) ((c : Int) % nf ks)
theorem length_prodM (ms ks : List (List Int)) : (prodM ms ks).length = ms.length := by simp [prodM]
theorem code_lt {a b : Int} {m n : Nat} (ha : 0 ≤ a ∧ a < m) (hb : 0 ≤ b ∧ b < n) : 0 ≤ a * n + b ∧ a * n + b < ((m * n : Nat) : Int) := by
  have h1 : 0 ≤ a * n := Int.mul_nonneg ha.1 (by omega)
  have h2 : (a + 1) * n ≤ (m : Int) * n := Int.mul_le_mul_of_nonneg_right (by omega) (by omega)
  rw [Int.add_mul] at h2
  rw [Int.natCast_mul]
  omega
theorem code_div {a b : Int} {n : Nat} (ha : 0 ≤ a) (hb : 0 ≤ b ∧ b < n) : (a * n + b) / n = a := by
  have hn : (n : Int) ≠ 0 := by omega
  rw [Int.add_comm, Int.add_mul_ediv_right _ _ hn, Int.ediv_eq_zero_of_lt hb.1 hb.2]
  omega
theorem code_mod {a b : Int} {n : Nat} (ha : 0 ≤ a) (hb : 0 ≤ b ∧ b < n) : (a * n + b) % n = b := by
  rw [Int.add_comm, Int.add_mul_emod_self_right, Int.emod_eq_of_lt hb.1 hb.2]
theorem code_of {c : Int} {m n : Nat} (h : 0 ≤ c ∧ c < ((m * n : Nat) : Int)) : (0 ≤ c / n ∧ c / n < m) ∧ (0 ≤ c % n ∧ c % n < n) ∧ c / n * n + c % n = c := by
  have hn : 0 < (n : Int) := by
    rcases Nat.eq_zero_or_pos n with e | e
    · subst e; simp at h; omega
    · omega
  rw [Int.natCast_mul] at h
  refine ⟨⟨Int.ediv_nonneg h.1 (by omega), Int.ediv_lt_of_lt_mul hn h.2⟩, ⟨Int.emod_nonneg _ (by omega), Int.emod_lt_of_pos _ hn⟩, ?_⟩
  have := Int.mul_ediv_add_emod c n
  rw [Int.mul_comm]; exact this
theorem gi_prodM {j : Nat} (hj : j < ms.length) {c : Int} (hc : 0 ≤ c ∧ c < ((nf ms * nf ks : Nat) : Int)) : gi (gr (prodM ms ks) j) c = gi (gr ms j) (c / nf ks) * nf ks + gi (gr ks j) (c % nf ks) := by
  have e : gr (prodM ms ks) j = (List.range (nf ms * nf ks)).map fun c : Nat => gi (gr ms j) ((c : Int) / nf ks) * nf ks + gi (gr ks j) ((c : Int) % nf ks) := by
    simp [prodM, gr, List.getD, hj]
  rw [e, gi_range_map hc.1 hc.2]
  have e2 : ((c.toNat : Nat) : Int) = c := by omega
  rw [e2]
theorem prodM_at (hm : IsMan ms) (hk : IsMan ks) (hl : ms.length = ks.length) {j : Nat} (hj : j < ms.length) {c : Int} (hc : 0 ≤ c ∧ c < ((nf ms * nf ks : Nat) : Int)) :
    (0 ≤ gi (gr ms j) (c / nf ks) ∧ gi (gr ms j) (c / nf ks) < nf ms) ∧ (0 ≤ gi (gr ks j) (c % nf ks) ∧ gi (gr ks j) (c % nf ks) < nf ks) := by
  obtain ⟨h1, h2, _⟩ := code_of hc
  exact ⟨hm.syst.at (j := (j : Int)) (by omega) (by omega) h1, hk.syst.at (j := (j : Int)) (by omega) (by omega) h2⟩
theorem prodM_syst (hm : IsMan ms) (hk : IsMan ks) (hl : ms.length = ks.length) : Syst (nf ms * nf ks) (prodM ms ks) := by
  intro m hmem
  obtain ⟨j, hj, rfl⟩ := mem_gr hmem
  rw [length_prodM] at hj
  have e : gr (prodM ms ks) j = (List.range (nf ms * nf ks)).map fun c : Nat => gi (gr ms j) ((c : Int) / nf ks) * nf ks + gi (gr ks j) ((c : Int) % nf ks) := by
    simp [prodM, gr, List.getD, hj]
  have hlen : (gr (prodM ms ks) j).length = nf ms * nf ks := by rw [e]; simp
  refine ⟨hlen, fun x hx => ?_⟩
  obtain ⟨i, hi, rfl⟩ := in_gi hx
  have hi' : 0 ≤ (i : Int) ∧ (i : Int) < ((nf ms * nf ks : Nat) : Int) := by rw [hlen] at hi; exact ⟨by omega, by exact_mod_cast hi⟩
  rw [gi_prodM hj hi']
  obtain ⟨h1, h2⟩ := prodM_at hm hk hl hj hi'
  exact code_lt h1 h2
/-- the pairs, as far as i of them are done -/
def mixB (ms ks : List (List Int)) (f g : Int) (i : Nat) : List Int := bfs (prodM ms ks) (f * nf ks + g) i
theorem mixO_ex (ms ks : List (List Int)) (f g : Int) : ∃ O, O = mixB ms ks f g 401 := ⟨_, rfl⟩
/-- all pairs (a word that does not unfold) -/
noncomputable def mixO (ms ks : List (List Int)) (f g : Int) : List Int := Classical.choose (mixO_ex ms ks f g)
theorem mixO_eq (ms ks : List (List Int)) (f g : Int) : mixO ms ks f g = mixB ms ks f g 401 := Classical.choose_spec (mixO_ex ms ks f g)
theorem mixB_mono : ∀ (i d : Nat), (mixB ms ks f g i).length ≤ (mixB ms ks f g (i + d)).length
  | i, 0 => Nat.le_refl _
  | i, d + 1 => by
    refine Nat.le_trans (mixB_mono i d) ?_
    show (mixB ms ks f g (i + d)).length ≤ (if i + d < (mixB ms ks f g (i + d)).length then visits (mixB ms ks f g (i + d)) (images (prodM ms ks) (gi (mixB ms ks f g (i + d)) (i + d : Nat))) else mixB ms ks f g (i + d)).length
    split
    · exact length_visits _ _
    · exact Nat.le_refl _
theorem mixB_end {i : Nat} (h : (mixB ms ks f g i).length ≤ i) (hi : i ≤ 401) : mixO ms ks f g = mixB ms ks f g i := by
  have := bfs_stable (ms := prodM ms ks) (p := f * nf ks + g) (i := i) h (401 - i)
  rw [show i + (401 - i) = 401 by omega] at this
  rw [mixO_eq]
  exact this
theorem mixB_big {i : Nat} (hi : i < 401) (h : 400 < (mixB ms ks f g (i + 1)).length) : ¬ (mixO ms ks f g).length ≤ 400 := by
  have := mixB_mono (ms := ms) (ks := ks) (f := f) (g := g) (i + 1) (401 - (i + 1))
  rw [show i + 1 + (401 - (i + 1)) = 401 by omega] at this
  rw [mixO_eq]
  omega
theorem mixB_succ {i : Nat} (h : i < (mixB ms ks f g i).length) : mixB ms ks f g (i + 1) = visits (mixB ms ks f g i) (images (prodM ms ks) (gi (mixB ms ks f g i) i)) := bfs_succ h
theorem mixB_pre (i : Nat) : ∀ d : Nat, ∃ e, mixB ms ks f g (i + d) = mixB ms ks f g i ++ e
  | 0 => ⟨[], by simp⟩
  | d + 1 => by
    obtain ⟨e, h⟩ := mixB_pre i d
    by_cases hlt : i + d < (mixB ms ks f g (i + d)).length
    · obtain ⟨e2, h2⟩ := visits_prefix (images (prodM ms ks) (gi (mixB ms ks f g (i + d)) (i + d : Nat))) (mixB ms ks f g (i + d))
      refine ⟨e ++ e2, ?_⟩
      rw [show i + (d + 1) = i + d + 1 by omega, mixB_succ hlt, h2, h, List.append_assoc]
    · refine ⟨e, ?_⟩
      rw [← h]
      show (if _ then _ else _) = _
      exact if_neg hlt
theorem mixB_rng (hm : IsMan ms) (hk : IsMan ks) (hl : ms.length = ks.length) (hf : 0 ≤ f ∧ f < nf ms) (hg : 0 ≤ g ∧ g < nf ks) {i : Nat} : ∀ x ∈ mixB ms ks f g i, 0 ≤ x ∧ x < ((nf ms * nf ks : Nat) : Int) := fun x hx =>
  (bfs_rch i hx).rng (prodM_syst hm hk hl) (code_lt hf hg)
theorem mixB_nodup {i : Nat} : (mixB ms ks f g i).Nodup := bfs_nodup i
theorem mixO_rng (hm : IsMan ms) (hk : IsMan ks) (hl : ms.length = ks.length) (hf : 0 ≤ f ∧ f < nf ms) (hg : 0 ≤ g ∧ g < nf ks) : ∀ x ∈ mixO ms ks f g, 0 ≤ x ∧ x < ((nf ms * nf ks : Nat) : Int) := by
  rw [mixO_eq]; exact mixB_rng hm hk hl hf hg
theorem mixO_nodup : (mixO ms ks f g).Nodup := by rw [mixO_eq]; exact mixB_nodup
/-- the code of a mix -/
noncomputable def mixC (ms ks : List (List Int)) (f g : Int) : Int :=
  if IsMan ms ∧ IsMan ks then (if (0 ≤ f ∧ f < nf ms) ∧ 0 ≤ g ∧ g < nf ks then (if ms.length = ks.length then (if (mixO ms ks f g).length ≤ 400 then 0 else 3) else 5) else 2) else 1
/-- the pairs -/
noncomputable def mixP (ms ks : List (List Int)) (f g : Int) : List (List Int) := if mixC ms ks f g = 0 then (mixO ms ks f g).map fun c : Int => [c / (nf ks : Int), c % (nf ks : Int)] else []
/-- the moves -/
noncomputable def mixL (ms ks : List (List Int)) (f g : Int) : List (List Int) := if mixC ms ks f g = 0 then (List.range ms.length).map fun j : Nat => (mixO ms ks f g).map fun c => idxOf (mixO ms ks f g) (gi (gr (prodM ms ks) j) c) else []
theorem mix_0 {c : Int} (h : mixC ms ks f g = c) (hc : c ≠ 0) : mixL ms ks f g = [] ∧ mixP ms ks f g = [] ∧ mixC ms ks f g = c := ⟨if_neg (by rw [h]; exact hc), if_neg (by rw [h]; exact hc), h⟩
theorem mix_1 (h : ¬ (IsMan ms ∧ IsMan ks)) : mixL ms ks f g = [] ∧ mixP ms ks f g = [] ∧ mixC ms ks f g = 1 := mix_0 (if_neg h) (by decide)
theorem mix_2 (hm : IsMan ms) (hk : IsMan ks) (h : ¬ ((0 ≤ f ∧ f < nf ms) ∧ 0 ≤ g ∧ g < nf ks)) : mixL ms ks f g = [] ∧ mixP ms ks f g = [] ∧ mixC ms ks f g = 2 :=
  mix_0 (by unfold mixC; rw [if_pos ⟨hm, hk⟩, if_neg h]) (by decide)
theorem mix_3 (hm : IsMan ms) (hk : IsMan ks) (hf : 0 ≤ f ∧ f < nf ms) (hg : 0 ≤ g ∧ g < nf ks) (h : ¬ ms.length = ks.length) : mixL ms ks f g = [] ∧ mixP ms ks f g = [] ∧ mixC ms ks f g = 5 :=
  mix_0 (by unfold mixC; rw [if_pos ⟨hm, hk⟩, if_pos ⟨hf, hg⟩, if_neg h]) (by decide)
theorem mix_4 (hm : IsMan ms) (hk : IsMan ks) (hf : 0 ≤ f ∧ f < nf ms) (hg : 0 ≤ g ∧ g < nf ks) (hl : ms.length = ks.length) (h : ¬ (mixO ms ks f g).length ≤ 400) : mixL ms ks f g = [] ∧ mixP ms ks f g = [] ∧ mixC ms ks f g = 3 :=
  mix_0 (by unfold mixC; rw [if_pos ⟨hm, hk⟩, if_pos ⟨hf, hg⟩, if_pos hl, if_neg h]) (by decide)
theorem mix_5 (hm : IsMan ms) (hk : IsMan ks) (hf : 0 ≤ f ∧ f < nf ms) (hg : 0 ≤ g ∧ g < nf ks) (hl : ms.length = ks.length) (h : (mixO ms ks f g).length ≤ 400) :
    mixL ms ks f g = ((List.range ms.length).map fun j : Nat => (mixO ms ks f g).map fun c => idxOf (mixO ms ks f g) (gi (gr (prodM ms ks) j) c)) ∧ mixP ms ks f g = ((mixO ms ks f g).map fun c : Int => [c / (nf ks : Int), c % (nf ks : Int)]) ∧ mixC ms ks f g = 0 := by
  have e : mixC ms ks f g = 0 := by unfold mixC; rw [if_pos ⟨hm, hk⟩, if_pos ⟨hf, hg⟩, if_pos hl, if_pos h]
  exact ⟨if_pos e, if_pos e, e⟩
theorem mixC_0 (h : mixC ms ks f g = 0) : IsMan ms ∧ IsMan ks ∧ (0 ≤ f ∧ f < nf ms) ∧ (0 ≤ g ∧ g < nf ks) ∧ ms.length = ks.length ∧ (mixO ms ks f g).length ≤ 400 := by
  unfold mixC at h
  split at h
  · rename_i h1
    split at h
    · rename_i h2
      split at h
      · rename_i h3
        split at h
        · rename_i h4; exact ⟨h1.1, h1.2, h2.1, h2.2, h3, h4⟩
        · simp at h
      · simp at h
    · simp at h
  · simp at h
theorem mixP_len (ms ks : List (List Int)) (f g : Int) : 1 + tot (mixP ms ks f g) ≤ 4000000000000000000 := by
  unfold mixP
  split
  · rename_i h
    have := (mixC_0 h).2.2.2.2.2
    refine rows_tot (n := 1000) (by simp; omega) (fun xs hx => ?_) (by omega)
    obtain ⟨c, _, rfl⟩ := List.mem_map.1 hx
    simp
  · simp [tot]
theorem mixL_len (ms ks : List (List Int)) (f g : Int) : 1 + tot (mixL ms ks f g) ≤ 4000000000000000000 := by
  unfold mixL
  split
  · rename_i h
    have h4 := (mixC_0 h).2.2.2.2.2
    have r5 := (mixC_0 h).1.m0.r5
    refine rows_tot (n := 1000) (by simp; omega) (fun xs hx => ?_) (by omega)
    obtain ⟨c, _, rfl⟩ := List.mem_map.1 hx
    simp; omega
  · simp [tot]
theorem idxOf_at {o : List Int} (h : o.Nodup) {i : Nat} (hi : i < o.length) : idxOf o (gi o i) = i := by
  obtain ⟨h0, h1, h2⟩ := idxOf_mem (gi_in hi)
  exact gi_inj h ⟨h0, h1⟩ ⟨by omega, by omega⟩ h2
/-- what has been met keeps its number -/
theorem idxOf_app {o e : List Int} {x : Int} (hn : (o ++ e).Nodup) (h : x ∈ o) : idxOf (o ++ e) x = idxOf o x := by
  obtain ⟨i, hi, rfl⟩ := in_gi h
  have e1 : gi (o ++ e) (i : Int) = gi o i := gi_append_left (by omega) (by omega)
  have h2 := idxOf_at hn (i := i) (by simp; omega)
  rw [e1] at h2
  rw [h2, idxOf_at (List.nodup_append.1 hn).1 hi]
def mixRow (P : List (List Int)) (o : List Int) (j t : Nat) : List Int := (List.range t).map fun q : Nat => idxOf o (gi (gr P j) (gi o q))
theorem length_mixRow (P : List (List Int)) (o : List Int) (j t : Nat) : (mixRow P o j t).length = t := by simp [mixRow]
theorem mixRow_succ (P : List (List Int)) (o : List Int) (j t : Nat) : mixRow P o j (t + 1) = mixRow P o j t ++ [idxOf o (gi (gr P j) (gi o t))] := by
  simp [mixRow, List.range_succ]
theorem mixRow_pre {P : List (List Int)} {o e : List Int} {j t : Nat} (hn : (o ++ e).Nodup) (ht : t ≤ o.length) (hc : ∀ q : Nat, q < t → gi (gr P j) (gi o q) ∈ o) : mixRow P (o ++ e) j t = mixRow P o j t := by
  refine List.map_congr_left fun q hq => ?_
  have hq := List.mem_range.1 hq
  rw [gi_append_left (by omega) (by omega), idxOf_app hn (hc q hq)]
theorem mixRow_all (P : List (List Int)) (o : List Int) (j : Nat) : mixRow P o j o.length = o.map fun c => idxOf o (gi (gr P j) c) := by
  apply List.ext_getElem
  · simp [mixRow]
  · intro i h1 h2
    simp [mixRow, gi, List.getD] at h1 h2 ⊢
    simp [h1]
def mixRows (P : List (List Int)) (o : List Int) (r i j : Nat) : List (List Int) := (List.range r).map fun q : Nat => mixRow P o q (if q < j then i + 1 else i)
theorem length_mixRows (P : List (List Int)) (o : List Int) (r i j : Nat) : (mixRows P o r i j).length = r := by simp [mixRows]
theorem gr_mixRows {P : List (List Int)} {o : List Int} {r i j q : Nat} (hq : q < r) : gr (mixRows P o r i j) q = mixRow P o q (if q < j then i + 1 else i) := by
  simp [mixRows, gr, List.getD, hq]
theorem mixRows_start (P : List (List Int)) (o : List Int) (r : Nat) : mixRows P o r 0 0 = List.replicate r [] := by
  apply List.ext_getElem <;> simp [mixRows, mixRow]
theorem mixRows_next (P : List (List Int)) (o : List Int) (r i : Nat) : mixRows P o r i r = mixRows P o r (i + 1) 0 := by
  refine List.map_congr_left fun q hq => ?_
  have hq := List.mem_range.1 hq
  rw [if_pos hq, if_neg (by omega)]
/-- a number more in the row j -/
theorem mixRows_step {P : List (List Int)} {o : List Int} {r i j : Nat} (hj : j < r) (hi : i < o.length) (hn : o.Nodup)
    (hc : ∀ q : Nat, q < r → ∀ t : Nat, t < (if q < j then i + 1 else i) → gi (gr P q) (gi o t) ∈ o) :
    (mixRows P o r i j).set j (gr (mixRows P o r i j) j ++ [idxOf (visit o (gi (gr P j) (gi o i))) (gi (gr P j) (gi o i))]) = mixRows P (visit o (gi (gr P j) (gi o i))) r i (j + 1) := by
  obtain ⟨e, he⟩ := visit_prefix o (gi (gr P j) (gi o i))
  have hn2 : (o ++ e).Nodup := by rw [← he]; exact nodup_visit hn
  rw [he]
  apply List.ext_getElem
  · simp [mixRows]
  · intro q h1 h2
    simp [mixRows] at h1 h2
    have hpre : mixRow P (o ++ e) q (if q < j then i + 1 else i) = mixRow P o q (if q < j then i + 1 else i) := mixRow_pre hn2 (by split <;> omega) (hc q h2)
    rw [List.getElem_set]
    by_cases e2 : j = q
    · subst e2
      rw [if_pos rfl, gr_mixRows hj]
      simp only [mixRows, List.getElem_map, List.getElem_range, if_pos (Nat.lt_succ_self j), mixRow_succ]
      rw [if_neg (Nat.lt_irrefl j)] at hpre ⊢
      rw [hpre, gi_append_left (by omega) (by omega)]
    · rw [if_neg e2]
      simp only [mixRows, List.getElem_map, List.getElem_range]
      have e3 : (q < j + 1) = (q < j) := by
        apply propext; constructor <;> omega
      simp only [e3]
      exact hpre.symm
/-- the pairs, as far as the moves below j have been looked at -/
theorem mix_closed {i j : Nat} (hi : i < (mixB ms ks f g i).length) {o : List Int} (ho : o = visits (mixB ms ks f g i) ((images (prodM ms ks) (gi (mixB ms ks f g i) i)).take j)) :
    ∀ q : Nat, q < ms.length → ∀ t : Nat, t < (if q < j then i + 1 else i) → gi (gr (prodM ms ks) q) (gi o t) ∈ o := by
  intro q hq t ht
  have ht2 : t ≤ i := by split at ht <;> omega
  have e1 : gi o t = gi (mixB ms ks f g i) t := by rw [ho]; exact gi_visits (by omega) (by omega)
  rw [e1, ho]
  have hP : gr (prodM ms ks) q ∈ prodM ms ks := by
    have : q < (prodM ms ks).length := by rw [length_prodM]; exact hq
    simp [gr, List.getD, this]
  refine mem_visits.2 ?_
  by_cases e : t < i
  · exact .inl (bfs_done i t e (by show t < (mixB ms ks f g i).length; omega) _ hP)
  · obtain rfl : t = i := by omega
    right
    have hqj : q < j := by
      by_cases h : q < j
      · exact h
      · rw [if_neg h] at ht; omega
    have hql : q < (images (prodM ms ks) (gi (mixB ms ks f g t) t)).length := by rw [length_images, length_prodM]; exact hq
    have e4 : gi ((images (prodM ms ks) (gi (mixB ms ks f g t) t)).take j) q = gi (gr (prodM ms ks) q) (gi (mixB ms ks f g t) t) := by
      have : (images (prodM ms ks) (gi (mixB ms ks f g t) t)) = (images (prodM ms ks) (gi (mixB ms ks f g t) t)).take j ++ (images (prodM ms ks) (gi (mixB ms ks f g t) t)).drop j := (List.take_append_drop _ _).symm
      rw [← gi_images (by rw [length_prodM]; exact hq)]
      rw [this, gi_append_left (by omega) (by simp; omega), ← this]
    rw [← e4]
    exact gi_in (by simp; omega)
end
end Go.Mem
