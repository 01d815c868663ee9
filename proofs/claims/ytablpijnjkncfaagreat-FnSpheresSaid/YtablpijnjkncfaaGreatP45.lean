/- Plain law: the rows of a type: how many flags the orbits of two moves have, halved, sorted, each once. -/
import Derived.Test.YtablpijnjkncfaaGreatPF
import Derived.Lib.SlicesCompact
namespace Go.Mem
open Go.RowKit
set_option linter.unusedVariables false
/-- how many of the first i labels are l, for each l below c -/
def szs (L : List Int) (c i : Nat) : List Int := (List.range c).map fun l : Nat => (((L.take i).count (l : Int) : Nat) : Int)
theorem szs_len (L : List Int) (c i : Nat) : (szs L c i).length = c := by simp [szs]
theorem gi_szs {L : List Int} {c i : Nat} {l : Int} (h0 : 0 ≤ l) (hl : l < c) : gi (szs L c i) l = (((L.take i).count l : Nat) : Int) := by
  unfold szs
  rw [gi_range_map h0 hl, show ((l.toNat : Nat) : Int) = l by omega]
theorem szs_0 (L : List Int) (c : Nat) : szs L c 0 = List.replicate c 0 := by
  unfold szs
  apply List.ext_getElem
  · simp
  · intro k h1 h2; simp
theorem szs_bound {L : List Int} {c i : Nat} : ∀ x ∈ szs L c i, 0 ≤ x ∧ x ≤ L.length := fun x hx => by
  unfold szs at hx
  obtain ⟨l, _, rfl⟩ := List.mem_map.1 hx
  have h1 := List.count_le_length (a := (l : Int)) (l := L.take i)
  have h2 : (L.take i).length ≤ L.length := by simp; omega
  omega
theorem szs_succ {L : List Int} {c i : Nat} (hi : i < L.length) (h0 : 0 ≤ gi L i) (hc : gi L i < c) : seti (szs L c i) (gi L i) (gi (szs L c i) (gi L i) + 1) = szs L c (i + 1) := by
  rw [gi_szs h0 hc]
  unfold seti szs
  apply List.ext_getElem
  · simp
  · intro k h1 h2
    have hk : k < c := by simpa using h2
    rw [List.getElem_set]
    simp only [List.getElem_map, List.getElem_range]
    rw [take_gi hi, List.count_append]
    by_cases e : (gi L i).toNat = k
    · have e2 : gi L i = (k : Int) := by omega
      rw [if_pos e, e2]
      simp
    · have e2 : gi L i ≠ (k : Int) := by omega
      rw [if_neg e]
      have : ([gi L i] : List Int).count (k : Int) = 0 := by
        rw [List.count_eq_zero]
        simp; omega
      omega
/-- the first k numbers halved -/
def hlf (S : List Int) (k : Nat) : List Int := (S.take k).map (fun x => x / 2) ++ S.drop k
theorem hlf_0 (S : List Int) : hlf S 0 = S := by simp [hlf]
theorem hlf_len (S : List Int) (k : Nat) : (hlf S k).length = S.length := by simp [hlf]; omega
theorem hlf_all (S : List Int) : hlf S S.length = S.map (fun x => x / 2) := by simp [hlf]
theorem gi_hlf {S : List Int} {k : Nat} (hk : k < S.length) : gi (hlf S k) k = gi S k := by
  have hl : ((S.take k).map (fun x => x / 2)).length = k := by simp; omega
  unfold gi hlf
  rw [Int.toNat_natCast, List.getD, List.getD, List.getElem?_append_right (by omega), hl, Nat.sub_self, List.getElem?_drop, Nat.add_zero]
theorem hlf_succ {S : List Int} {k : Nat} (hk : k < S.length) : seti (hlf S k) k (gi S k / 2) = hlf S (k + 1) := by
  unfold seti hlf
  have e : ((k : Int)).toNat = k := by omega
  rw [e]
  have hl : ((S.take k).map (fun x => x / 2)).length = k := by simp; omega
  rw [List.set_append_right _ _ (by omega), hl, Nat.sub_self, List.drop_eq_getElem_cons hk, List.set_cons_zero, take_gi hk, List.map_append, List.append_assoc]
  rfl
section
variable {n : Nat} {A : List (List Int)}
/-- as many flags bear a flag's label as its orbit has -/
theorem count_orbit (hs : Sym n A) (hn : n ≤ 1000) {f : Int} (hf : 0 ≤ f ∧ f < n) : (labs n A).count (gi (labs n A) f) = (orbit A f).length := by
  have hL := labs_all hs hn
  have oA := obt_orbit hs.1 hf hn
  have mA : ∀ y, y ∈ orbit A f ↔ Rch A f y := fun y => mem_orbit hs.1 hf hn
  generalize orbit A f = O at *
  generalize labs n A = L at *
  have eL : L = (idl n).map (gi L) := by
    apply List.ext_getElem
    · simp [idl, hL.len]
    · intro k h1 h2
      simp [idl, gi, List.getD, h1]
  have ec : ∀ l, L.count l = ((idl n).filter (fun x => gi L x == l)).length := fun l => by
    have e2 : L.count l = ((idl n).map (gi L)).count l := by rw [← eL]
    rw [e2, List.count, List.countP_map, List.countP_eq_length_filter]
    rfl
  rw [ec]
  have hnd : ((idl n).filter (fun x => gi L x == gi L f)).Nodup := by
    refine List.Pairwise.filter _ ?_
    unfold idl
    exact List.pairwise_map.2 (List.nodup_range.imp fun h e => h (by omega))
  have hmem : ∀ x, x ∈ (idl n).filter (fun x => gi L x == gi L f) ↔ x ∈ O := fun x => by
    rw [mA, List.mem_filter]
    have hd := hL.done f hf.1 hf.2 hf.2
    constructor
    · rintro ⟨h1, h2⟩
      unfold idl at h1
      obtain ⟨k, hk, rfl⟩ := List.mem_map.1 h1
      have := List.mem_range.1 hk
      exact hL.only f k hf.1 hf.2 (by omega) (by omega) hd (by simpa using h2)
    · intro h
      have hr := h.rng hs.1 hf
      refine ⟨?_, by simpa using hL.shut f x hf.1 hf.2 hd h⟩
      unfold idl
      exact List.mem_map.2 ⟨x.toNat, List.mem_range.2 (by omega), by omega⟩
  exact Nat.le_antisymm (List.Nodup.length_le_of_subset hnd fun y hy => (hmem y).1 hy) (List.Nodup.length_le_of_subset oA.nodup fun y hy => (hmem y).2 hy)
end
section
open Go.Lib
/-- of a list that climbs, the different ones -/
theorem compact_up {d : Array Int} (hd : ∀ i j : Nat, i < j → j < d.size → d[i]! ≤ d[j]!) : ∀ m : Nat, m ≤ d.size →
    (compactUpTo d m).Pairwise (· < ·) ∧ (∀ a, a ∈ compactUpTo d m ↔ ∃ j : Nat, j < m ∧ d[j]! = a) := by
  intro m
  induction m with
  | zero => intro _; exact ⟨by simp [compactUpTo], fun a => by simp [compactUpTo]⟩
  | succ m ih =>
    intro hm
    obtain ⟨h1, h2⟩ := ih (by omega)
    rw [compactUpTo_succ]
    by_cases hk : keeps d m = true
    · rw [if_pos hk]
      have hk2 : m = 0 ∨ d[m]! ≠ d[m - 1]! := by simpa [keeps] using hk
      refine ⟨List.pairwise_append.2 ⟨h1, by simp, fun a ha b hb => ?_⟩, fun a => ?_⟩
      · simp at hb; subst hb
        obtain ⟨j, hj, rfl⟩ := (h2 a).1 ha
        have e1 := hd (m - 1) m (by omega) (by omega)
        have e2 : d[j]! ≤ d[m - 1]! := by
          by_cases e : j = m - 1
          · rw [e]; exact Int.le_refl _
          · exact hd j (m - 1) (by omega) (by omega)
        rcases hk2 with h | h
        · omega
        · omega
      · rw [List.mem_append, h2]
        constructor
        · rintro (⟨j, hj, e⟩ | h)
          · exact ⟨j, by omega, e⟩
          · simp at h; exact ⟨m, by omega, h.symm⟩
        · rintro ⟨j, hj, e⟩
          by_cases hjm : j = m
          · subst hjm; exact .inr (by simp [e])
          · exact .inl ⟨j, by omega, e⟩
    · rw [if_neg hk, List.append_nil]
      have hk2 : ¬ (m = 0 ∨ d[m]! ≠ d[m - 1]!) := fun h => hk (by simpa [keeps] using h)
      have hm0 : m ≠ 0 := fun h => hk2 (.inl h)
      have he : d[m]! = d[m - 1]! := Classical.byContradiction fun h => hk2 (.inr h)
      refine ⟨h1, fun a => ?_⟩
      rw [h2]
      constructor
      · rintro ⟨j, hj, e⟩; exact ⟨j, by omega, e⟩
      · rintro ⟨j, hj, e⟩
        by_cases hjm : j = m
        · subst hjm; exact ⟨j - 1, by omega, by rw [← he]; exact e⟩
        · exact ⟨j, by omega, e⟩
/-- sorted, each once -/
def typRow (S : List Int) : List Int := compactUpTo (S.mergeSort fun x y => decide (x ≤ y)).toArray S.length
theorem typRow_ok (S : List Int) : (typRow S).Pairwise (· < ·) ∧ ∀ a, a ∈ typRow S ↔ a ∈ S := by
  have hp := List.mergeSort_perm S (fun x y => decide (x ≤ y))
  have hs := List.pairwise_mergeSort (le := fun x y : Int => decide (x ≤ y)) (fun a b c h1 h2 => by simp at *; omega) (fun a b => by simp; omega) S
  unfold typRow
  have hl := hp.length_eq
  generalize hT : S.mergeSort (fun x y => decide (x ≤ y)) = T at *
  have hsz : T.toArray.size = S.length := by simpa using hl
  have hget : ∀ j : Nat, (hj : j < T.length) → T.toArray[j]! = T[j] := fun j hj => by
    rw [getElem!_pos T.toArray j (by simpa using hj)]; simp
  have hup : ∀ i j : Nat, i < j → j < T.toArray.size → T.toArray[i]! ≤ T.toArray[j]! := fun i j hij hj => by
    have hj' : j < T.length := by simpa using hj
    rw [hget i (by omega), hget j hj']
    simpa using List.pairwise_iff_getElem.1 hs i j (by omega) hj' hij
  obtain ⟨h1, h2⟩ := compact_up hup S.length (by omega)
  refine ⟨h1, fun a => ?_⟩
  rw [h2, ← hp.mem_iff]
  constructor
  · rintro ⟨j, hj, e⟩
    rw [hget j (by omega)] at e
    rw [← e]; exact List.getElem_mem _
  · intro h
    obtain ⟨j, hj, e⟩ := List.getElem_of_mem h
    exact ⟨j, by omega, by rw [hget j hj]; exact e⟩
end
/-- the row i of a type -/
def typS (ms : List (List Int)) (i : Nat) : List Int := szs (labs (nf ms) ((ms.drop i).take 2)) (labc (nf ms) ((ms.drop i).take 2)).toNat (nf ms)
theorem two_sym {ms : List (List Int)} (hm : IsMan ms) (i : Nat) : Sym (nf ms) ((ms.drop i).take 2) := hm.like.sym fun m h => List.mem_of_mem_drop (List.mem_of_mem_take h)
theorem typ_poly {ms : List (List Int)} (hm : IsMan ms) {i : Nat} : (typRow ((typS ms i).map (fun x => x / 2))).Pairwise (· < ·) ∧ ∀ a, a ∈ typRow ((typS ms i).map (fun x => x / 2)) ↔ Poly ms i a := by
  obtain ⟨h1, h2⟩ := typRow_ok ((typS ms i).map (fun x => x / 2))
  refine ⟨h1, fun a => ?_⟩
  rw [h2]
  have h4 := hm.m0.f400
  have hs := two_sym hm i
  have hL := labs_all hs (by omega)
  have hc := fun (f : Int) (hf : 0 ≤ f ∧ f < nf ms) => count_orbit hs (by omega) hf
  unfold Poly typS
  generalize (ms.drop i).take 2 = A at *
  have eT : (labs (nf ms) A).take (nf ms) = labs (nf ms) A := List.take_of_length_le (by rw [hL.len]; exact Nat.le_refl _)
  have hc0 := hL.c0
  constructor
  · intro h
    obtain ⟨x, hx, rfl⟩ := List.mem_map.1 h
    unfold szs at hx
    obtain ⟨l, hl, rfl⟩ := List.mem_map.1 hx
    have := List.mem_range.1 hl
    obtain ⟨f, f0, f1, f2, fe⟩ := hL.hit l (by omega) (by omega)
    refine ⟨f, ⟨f0, f2⟩, ?_⟩
    rw [eT, ← fe, hc f ⟨f0, f2⟩]
    omega
  · rintro ⟨f, hf, rfl⟩
    have hr := hL.rng f hf.1 hf.2
    have hd := hL.done f hf.1 hf.2 hf.2
    refine List.mem_map.2 ⟨((orbit A f).length : Int), ?_, by omega⟩
    unfold szs
    refine List.mem_map.2 ⟨(gi (labs (nf ms) A) f).toNat, List.mem_range.2 (by omega), ?_⟩
    rw [eT, show (((gi (labs (nf ms) A) f).toNat : Nat) : Int) = gi (labs (nf ms) A) f by omega, hc f hf]
end Go.Mem
