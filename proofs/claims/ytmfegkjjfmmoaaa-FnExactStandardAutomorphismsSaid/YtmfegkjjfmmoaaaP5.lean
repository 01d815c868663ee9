/- Plain words on lists: one orbit is marked, by a stack. No program in sight. -/
import Derived.Test.YtmfegkjjfmmoaaaP4
namespace Go.Mem
def negs : List Int → Nat
  | [] => 0
  | x :: xs => (if x < 0 then 1 else 0) + negs xs
theorem negs_le : ∀ L : List Int, negs L ≤ L.length
  | [] => by simp [negs]
  | x :: xs => by
    have := negs_le xs
    simp only [negs, List.length_cons]
    split <;> omega
theorem negs_set : ∀ (L : List Int) (j : Nat) (c : Int), j < L.length → gi L j < 0 → 0 ≤ c → negs (L.set j c) + 1 = negs L
  | [], j, c, h, _, _ => by simp at h
  | x :: xs, 0, c, _, hx, hc => by
    have hx' : x < 0 := by simpa [gi, List.getD] using hx
    have hc' : ¬ c < 0 := by omega
    simp [negs, hx', hc']; omega
  | x :: xs, j + 1, c, h, hx, hc => by
    have ih := negs_set xs j c (by simpa using h) (by simpa [gi, List.getD] using hx) hc
    simp only [List.set_cons_succ, negs]
    omega
theorem negs_seti {L : List Int} {j c : Int} (h0 : 0 ≤ j) (hj : j < L.length) (hn : gi L j < 0) (hc : 0 ≤ c) : negs (seti L j c) + 1 = negs L := by
  have e : ((j.toNat : Nat) : Int) = j := by omega
  exact negs_set L j.toNat c (by omega) (by rw [e]; exact hn) hc
theorem gi_seti (xs : List Int) (j k a : Int) (h0 : 0 ≤ j) (hj : j < xs.length) (hk : 0 ≤ k) : gi (seti xs j a) k = if k = j then a else gi xs k := by
  have hlt : j.toNat < xs.length := by omega
  simp only [gi, seti, List.getD, List.getElem?_set]
  by_cases h : k = j
  · subst h; simp [hlt]
  · have : ¬ j.toNat = k.toNat := by omega
    simp [h, this]
theorem list_ext_gi {xs ys : List Int} (hl : xs.length = ys.length) (h : ∀ j : Int, 0 ≤ j → j < xs.length → gi xs j = gi ys j) : xs = ys := by
  refine List.ext_getElem hl fun j h1 h2 => ?_
  have := h j (by omega) (by omega)
  simpa [gi, List.getD, h1, h2] using this

/-- On the way: x is being looked at, its first j images are marked (x = -1: nothing is). -/
structure Dfs (n : Nat) (ms : List (List Int)) (L : List Int) (c i : Int) (L' o : List Int) (x : Int) (j : Nat) : Prop where
  len : L'.length = n
  was : ∀ y : Int, 0 ≤ y → y < n → gi L' y = gi L y ∨ (gi L' y = c ∧ Rch ms i y)
  op : ∀ y ∈ o, 0 ≤ y ∧ y < n ∧ gi L' y = c
  cl : ∀ y : Int, 0 ≤ y → y < n → gi L' y = c → y ∈ o ∨ y = x ∨ ∀ m ∈ ms, gi L' (gi m y) = c
  st : gi L' i = c
  now : ∀ k : Nat, k < j → gi L' (gi (gr ms k) x) = c

section
variable {n : Nat} {ms : List (List Int)} {L L' o : List Int} {c i x : Int} {j k : Nat}
theorem Dfs.rch (h : Dfs n ms L c i L' o x j) (hL : Labs n ms k L c) {y : Int} (h0 : 0 ≤ y) (hy : y < n) (hc : gi L' y = c) : Rch ms i y := by
  rcases h.was y h0 hy with e | ⟨_, hr⟩
  · have := hL.rng y h0 hy; omega
  · exact hr
theorem Dfs.start (hL : Labs n ms k L c) (hi : 0 ≤ i ∧ i < n) : Dfs n ms L c i (seti L i c) [i] (-1) 0 := by
  have hl := hL.len
  refine ⟨by simp [hl], fun y h0 hy => ?_, fun y hy => ?_, fun y h0 hy hc => ?_, ?_, fun k hk => by omega⟩
  · rw [gi_seti _ _ _ _ hi.1 (by omega) h0]
    split
    · rename_i e; subst e; exact .inr ⟨rfl, .refl _⟩
    · exact .inl rfl
  · simp at hy; subst hy; exact ⟨hi.1, hi.2, by rw [gi_seti _ _ _ _ hi.1 (by omega) hi.1, if_pos rfl]⟩
  · rw [gi_seti _ _ _ _ hi.1 (by omega) h0] at hc
    split at hc
    · rename_i e; subst e; exact .inl (by simp)
    · have := hL.rng y h0 hy; omega
  · rw [gi_seti _ _ _ _ hi.1 (by omega) hi.1, if_pos rfl]
/-- the last of the stack is taken -/
theorem Dfs.take (h : Dfs n ms L c i L' o (-1) 0) (hne : 0 < o.length) : Dfs n ms L c i L' (o.take (o.length - 1)) (gi o (o.length - 1 : Nat)) 0 := by
  refine ⟨h.len, h.was, fun y hy => h.op y (List.mem_of_mem_take hy), fun y h0 hy hc => ?_, h.st, fun k hk => by omega⟩
  rcases h.cl y h0 hy hc with ho | hx | hm
  · obtain ⟨q, hq, rfl⟩ := in_gi ho
    by_cases hql : q = o.length - 1
    · subst hql; exact .inr (.inl rfl)
    · left
      have : gi o q = gi (o.take (o.length - 1)) q := by
        simp only [gi, List.getD]
        rw [List.getElem?_take, if_pos (by omega)]
      rw [this]
      exact gi_in (by simp; omega)
  · omega
  · exact .inr (.inr hm)
theorem Dfs.hit (h : Dfs n ms L c i L' o x j) (hL : Labs n ms k L c) (hs : Sym n ms) (hi : 0 ≤ i ∧ i < n) (hneg : gi L i < 0) (hx : 0 ≤ x ∧ x < n) (hxc : gi L' x = c) (hj : j < ms.length) (hp : ¬ gi L' (gi (gr ms j) x) < 0) :
    Dfs n ms L c i L' o x (j + 1) := by
  refine ⟨h.len, h.was, h.op, h.cl, h.st, fun q hq => ?_⟩
  by_cases hqj : q = j
  · subst hqj
    have hy := hs.syst.at (j := q) (by omega) (by omega) hx
    rcases h.was _ hy.1 hy.2 with e | ⟨e, _⟩
    · exfalso
      have hm : gr ms q ∈ ms := by simp [gr, List.getD, hj]
      have hr : Rch ms i (gi (gr ms q) x) := .step (h.rch hL hx.1 hx.2 hxc) hm
      have := hL.shut _ i hy.1 hy.2 (by omega) (hs.back i _ hi.1 hi.2 hr)
      omega
    · exact e
  · exact h.now q (by omega)
theorem Dfs.miss (h : Dfs n ms L c i L' o x j) (hL : Labs n ms k L c) (hs : Sym n ms) (hx : 0 ≤ x ∧ x < n) (hxc : gi L' x = c) (hj : j < ms.length) (hp : gi L' (gi (gr ms j) x) < 0) :
    Dfs n ms L c i (seti L' (gi (gr ms j) x) c) (o ++ [gi (gr ms j) x]) x (j + 1) := by
  have hy := hs.syst.at (j := j) (by omega) (by omega) hx
  have hm : gr ms j ∈ ms := by simp [gr, List.getD, hj]
  have hr : Rch ms i (gi (gr ms j) x) := .step (h.rch hL hx.1 hx.2 hxc) hm
  have hl := h.len
  have hc0 := hL.c0
  generalize hyy : gi (gr ms j) x = y at *
  have g : ∀ z : Int, 0 ≤ z → gi (seti L' y c) z = if z = y then c else gi L' z := fun z h0 => gi_seti _ _ _ _ hy.1 (by omega) h0
  have up : ∀ z : Int, 0 ≤ z → gi L' z = c → gi (seti L' y c) z = c := fun z h0 hz => by rw [g z h0]; split; rfl; exact hz
  refine ⟨by simp [hl], fun z h0 hz => ?_, fun z hz => ?_, fun z h0 hz hc => ?_, ?_, fun q hq => ?_⟩
  · rw [g z h0]
    split
    · rename_i e; subst e; exact .inr ⟨rfl, hr⟩
    · exact h.was z h0 hz
  · rcases List.mem_append.1 hz with hz | hz
    · obtain ⟨a, b, e⟩ := h.op z hz
      exact ⟨a, b, up z a e⟩
    · simp at hz; subst hz; exact ⟨hy.1, hy.2, by rw [g z hy.1, if_pos rfl]⟩
  · rw [g z h0] at hc
    by_cases e : z = y
    · subst e; exact .inl (by simp)
    · rw [if_neg e] at hc
      rcases h.cl z h0 hz hc with h1 | h1 | h1
      · exact .inl (List.mem_append_left _ h1)
      · exact .inr (.inl h1)
      · exact .inr (.inr fun m hm => up _ (hs.syst.mem hm ⟨h0, hz⟩).1 (h1 m hm))
  · have hst := h.st
    by_cases hi0 : 0 ≤ i
    · exact up i hi0 hst
    · have e : gi (seti L' y c) i = gi (seti L' y c) 0 := by
        have : i.toNat = (0 : Int).toNat := by omega
        simp [gi, this]
      have e' : gi L' i = gi L' 0 := by
        have : i.toNat = (0 : Int).toNat := by omega
        simp [gi, this]
      rw [e]; exact up 0 (by omega) (by omega)
  · by_cases hqj : q = j
    · subst hqj; rw [hyy, g y hy.1, if_pos rfl]
    · have := h.now q (by omega)
      have hq' := hs.syst.at (j := q) (x := x) (by omega) (by omega) hx
      exact up _ hq'.1 this
/-- all images are marked -/
theorem Dfs.next (h : Dfs n ms L c i L' o x ms.length) : Dfs n ms L c i L' o (-1) 0 := by
  refine ⟨h.len, h.was, h.op, fun y h0 hy hc => ?_, h.st, fun k hk => by omega⟩
  rcases h.cl y h0 hy hc with h1 | h1 | h1
  · exact .inl h1
  · subst h1
    refine .inr (.inr fun m hm => ?_)
    obtain ⟨q, hq, e⟩ := List.mem_iff_getElem.1 hm
    have := h.now q hq
    simpa [gr, List.getD, hq, e] using this
  · exact .inr (.inr h1)
theorem Dfs.done (h : Dfs n ms L c i L' [] (-1) 0) (hL : Labs n ms k L c) (hs : Sym n ms) (hn : n ≤ 1000) (hi : 0 ≤ i ∧ i < n) : L' = lab1 ms L c i := by
  have hmem : ∀ {x : Int}, x ∈ orbit ms i ↔ Rch ms i x := mem_orbit hs.syst hi hn
  have hall : ∀ x : Int, Rch ms i x → gi L' x = c := fun x hr => by
    induction hr with
    | refl => exact h.st
    | step hr hm ih =>
      have hy := hr.rng hs.syst hi
      rcases h.cl _ hy.1 hy.2 ih with h1 | h1 | h1
      · simp at h1
      · omega
      · exact h1 _ hm
  refine list_ext_gi (by rw [length_lab1, hL.len, h.len]) fun x h0 hx => ?_
  have hx' : x < n := by have := h.len; omega
  rw [gi_lab1 h0 (by have := hL.len; omega)]
  by_cases hxo : x ∈ orbit ms i
  · rw [if_pos hxo]; exact hall x (hmem.1 hxo)
  · rw [if_neg hxo]
    rcases h.was x h0 hx' with e | ⟨_, hr⟩
    · exact e
    · exact absurd (hmem.2 hr) hxo
end
end Go.Mem
