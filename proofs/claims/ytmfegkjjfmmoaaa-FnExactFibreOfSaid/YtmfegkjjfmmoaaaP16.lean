/- Plain words on lists: standard automorphisms, symmetry types, fibres, normal coverings. No program in sight. -/
import Derived.Test.YtmfegkjjfmmoaaaP15
namespace Go.Mem
set_option linter.unusedVariables false
section
variable {ms ks : List (List Int)} {n : Nat} {xs : List Int}
theorem covers_gr : ∀ {n : Nat}, (covers ms ks n).length = n → ∀ f : Nat, f < n → mapT ms ks f = some (gr (covers ms ks n) f)
  | 0, _, f, hf => by omega
  | n + 1, h, f, hf => by
    cases e : mapT ms ks n with
    | none => rw [covers_none e] at h; have := covers_le ms ks n; omega
    | some q =>
      rw [covers_some e] at h ⊢
      have hl : (covers ms ks n).length = n := by simpa using h
      by_cases hfn : f = n
      · subst hfn
        rw [e]
        simp [gr, List.getD, hl]
      · have := covers_gr hl f (by omega)
        rw [this]
        have hlt : f < (covers ms ks n).length := by omega
        simp [gr, List.getD, List.getElem?_append_left hlt]

noncomputable def stdA (ms : List (List Int)) : List (List Int) := if IsMan ms ∧ labc (nf ms) (auts ms) = 1 then (List.range ms.length).map (fun k : Nat => (mapTo ms ms (gi (gr ms k) 0)).getD []) else []
noncomputable def stdAC (ms : List (List Int)) : Int := if IsMan ms then (if labc (nf ms) (auts ms) = 1 then 0 else 5) else 1
theorem stdA_1 (h : ¬ IsMan ms) : stdA ms = [] ∧ stdAC ms = 1 := ⟨if_neg fun h' => h h'.1, if_neg h⟩
theorem stdA_2 (hm : IsMan ms) (h : ¬ labc (nf ms) (auts ms) = 1) : stdA ms = [] ∧ stdAC ms = 5 := ⟨if_neg fun h' => h h'.2, by unfold stdAC; rw [if_pos hm, if_neg h]⟩
theorem stdA_3 (hm : IsMan ms) (h : labc (nf ms) (auts ms) = 1) : stdA ms = (List.range ms.length).map (fun k : Nat => (mapTo ms ms (gi (gr ms k) 0)).getD []) ∧ stdAC ms = 0 := ⟨if_pos ⟨hm, h⟩, by unfold stdAC; rw [if_pos hm, if_pos h]⟩
theorem labc_pos (hm : IsMan ms) : 1 ≤ labc (nf ms) (auts ms) := by
  have h2 := hm.m0.f2
  have h4 := hm.m0.f400
  have h := labs_all (auts_sym hm) (by omega)
  have h0 := h.done 0 (by omega) (by omega) (by omega)
  have h1 := h.rng 0 (by omega) (by omega)
  omega
theorem stdA_len (ms : List (List Int)) : 1 + tot (stdA ms) ≤ 4000000000000000000 := by
  unfold stdA
  split
  · rename_i h
    have h4 := h.1.m0.f400
    have h5 := h.1.m0.r5
    refine rows_tot (n := 1000) (by simp; omega) (fun xs hx => ?_) (by omega)
    obtain ⟨k, _, rfl⟩ := List.mem_map.1 hx
    have := opt_len (o := mapTo ms ms (gi (gr ms k) 0)) (n := nf ms) fun p hp => by rw [mapTo_len hp]; exact Nat.le_refl _
    omega
  · simp [tot]
theorem stdA_gr (hm : IsMan ms) (h : labc (nf ms) (auts ms) = 1) {k : Nat} (hk : k < ms.length) : mapTo ms ms (gi (gr ms k) 0) = some (gr (auts ms) (gi (gr ms k) 0)) := by
  have h2 := hm.m0.f2
  have hl := (regular_iff hm).2 h
  have hx := hm.syst.at (j := (k : Int)) (x := 0) (by omega) (by omega) (by omega)
  have := covers_gr hl (gi (gr ms k) 0).toNat (by omega)
  rw [show (((gi (gr ms k) 0).toNat : Nat) : Int) = gi (gr ms k) 0 by omega, mapT_self] at this
  exact this
theorem std_take_succ {k : Nat} (g : Nat → List Int) : (List.range (k + 1)).map g = (List.range k).map g ++ [g k] := by simp [List.range_succ]

/-- flags of one orbit: a move leads them to one orbit -/
theorem labs_move (hm : IsMan ms) {j : Nat} (hj : j < ms.length) {x y : Int} (hx : 0 ≤ x ∧ x < nf ms) (hy : 0 ≤ y ∧ y < nf ms) (e : gi (labs (nf ms) (auts ms)) x = gi (labs (nf ms) (auts ms)) y) :
    gi (labs (nf ms) (auts ms)) (gi (gr ms j) x) = gi (labs (nf ms) (auts ms)) (gi (gr ms j) y) := by
  have h4 := hm.m0.f400
  have h := labs_all (auts_sym hm) (by omega)
  have hd := h.done x hx.1 (by omega) (by omega)
  obtain ⟨p, hp, e2⟩ := (auts_rch hm hx).1 (h.only x y hx.1 hx.2 hy.1 hy.2 hd e.symm)
  have hmx := hm.syst.at (j := (j : Int)) (by omega) (by omega) hx
  have hr : Rch (auts ms) (gi (gr ms j) x) (gi (gr ms j) y) := (auts_rch hm hmx).2 ⟨p, hp, by rw [hp.mv j hj x hx.1 hx.2, e2]⟩
  exact (h.shut _ _ hmx.1 hmx.2 (h.done _ hmx.1 (by omega) hmx.2) hr).symm
/-- the first place of a number (or -1) -/
def idxOf (xs : List Int) (a : Int) : Int := idxF (fun x => decide (x = a)) xs
theorem idxOf_hit {a : Int} {i : Nat} (hi : i < xs.length) (h : gi xs i = a) (hb : ∀ j : Nat, j < i → gi xs j ≠ a) : idxOf xs a = i :=
  idxF_some hi (by simp [h]) fun j hj => by simp [hb j hj]
theorem idxOf_none {a : Int} (h : ∀ j : Nat, j < xs.length → gi xs j ≠ a) : idxOf xs a = -1 := idxF_none fun j hj => by simp [h j hj]
theorem idxOf_mem {a : Int} (h : a ∈ xs) : 0 ≤ idxOf xs a ∧ idxOf xs a < xs.length ∧ gi xs (idxOf xs a) = a := by
  unfold idxOf idxF
  cases e : xs.findIdx? (fun x => decide (x = a)) with
  | none =>
    rw [List.findIdx?_eq_none_iff] at e
    have := e a h
    simp at this
  | some i =>
    rw [List.findIdx?_eq_some_iff_getElem] at e
    obtain ⟨hi, he, _⟩ := e
    refine ⟨by simp only; omega, by simp only; omega, ?_⟩
    simpa [gi, List.getD, hi] using he
/-- to what orbits a move leads -/
def symRow (L : List Int) (c : Nat) (m : List Int) : List Int := (List.range c).map fun o : Nat => gi L (gi m (idxOf L o))
noncomputable def symT (ms : List (List Int)) : List (List Int) := if IsMan ms then ms.map (symRow (labs (nf ms) (auts ms)) (labc (nf ms) (auts ms)).toNat) else []
theorem symT_yes (h : IsMan ms) : symT ms = ms.map (symRow (labs (nf ms) (auts ms)) (labc (nf ms) (auts ms)).toNat) := if_pos h
theorem symT_no (h : ¬ IsMan ms) : symT ms = [] := if_neg h
theorem symT_len (ms : List (List Int)) : 1 + tot (symT ms) ≤ 4000000000000000000 := by
  unfold symT
  split
  · rename_i h
    have h4 := h.m0.f400
    have h5 := h.m0.r5
    have hc := (labs_all (auts_sym h) (by omega)).c0
    refine rows_tot (n := 1000) (by simp; omega) (fun xs hx => ?_) (by omega)
    obtain ⟨m, _, rfl⟩ := List.mem_map.1 hx
    simp [symRow]; omega
  · simp [tot]
theorem symRow_at (hm : IsMan ms) {j : Nat} (hj : j < ms.length) {to : List Int} (hl : to.length = (labc (nf ms) (auts ms)).toNat)
    (h : ∀ f : Nat, f < nf ms → gi to (gi (labs (nf ms) (auts ms)) f) = gi (labs (nf ms) (auts ms)) (gi (gr ms j) f)) : to = symRow (labs (nf ms) (auts ms)) (labc (nf ms) (auts ms)).toNat (gr ms j) := by
  have h4 := hm.m0.f400
  have hL := labs_all (auts_sym hm) (by omega)
  refine list_ext_gi (by simp [symRow, hl]) fun o h0 ho => ?_
  rw [hl] at ho
  unfold symRow
  rw [gi_range_map h0 (by omega)]
  obtain ⟨x, hx0, _, hx, e⟩ := hL.hit o h0 (by omega)
  have hmem : ((o.toNat : Nat) : Int) ∈ labs (nf ms) (auts ms) := by rw [show ((o.toNat : Nat) : Int) = o by omega, ← e]; exact gi_mem hx0 (by rw [hL.len]; exact hx)
  obtain ⟨i0, i1, i2⟩ := idxOf_mem hmem
  rw [hL.len] at i1
  rw [show ((o.toNat : Nat) : Int) = o by omega] at i0 i1 i2 ⊢
  have := h (idxOf (labs (nf ms) (auts ms)) o).toNat (by omega)
  rw [show (((idxOf (labs (nf ms) (auts ms)) o).toNat : Nat) : Int) = idxOf (labs (nf ms) (auts ms)) o by omega, i2] at this
  exact this

/-- the places of a number -/
def plc (xs : List Int) (a : Int) : List Int := ((List.range xs.length).filter fun i : Nat => decide (gi xs i = a)).map fun i : Nat => (i : Int)
def plcTo (xs : List Int) (a : Int) (k : Nat) : List Int := ((List.range k).filter fun i : Nat => decide (gi xs i = a)).map fun i : Nat => (i : Int)
theorem plcTo_hit {a : Int} {k : Nat} (h : gi xs k = a) : plcTo xs a (k + 1) = plcTo xs a k ++ [(k : Int)] := by
  unfold plcTo; rw [List.range_succ, List.filter_append, List.map_append]; simp [h]
theorem plcTo_miss {a : Int} {k : Nat} (h : gi xs k ≠ a) : plcTo xs a (k + 1) = plcTo xs a k := by
  unfold plcTo; rw [List.range_succ, List.filter_append, List.map_append]; simp [h]
theorem plcTo_le (xs : List Int) (a : Int) (k : Nat) : (plcTo xs a k).length ≤ k := by
  unfold plcTo; rw [List.length_map]; have := List.length_filter_le (fun i : Nat => decide (gi xs i = a)) (List.range k); simpa using this
theorem plc_le (xs : List Int) (a : Int) : (plc xs a).length ≤ xs.length := plcTo_le xs a xs.length
theorem mem_plc {a x : Int} : x ∈ plc xs a ↔ 0 ≤ x ∧ x < xs.length ∧ gi xs x = a := by
  unfold plc
  rw [List.mem_map]
  constructor
  · rintro ⟨i, hi, rfl⟩
    rw [List.mem_filter, List.mem_range] at hi
    exact ⟨by omega, by omega, by simpa using hi.2⟩
  · rintro ⟨h0, hx, e⟩
    exact ⟨x.toNat, by rw [List.mem_filter, List.mem_range]; exact ⟨by omega, by rw [show ((x.toNat : Nat) : Int) = x by omega]; simpa using e⟩, by omega⟩
/-- the code of two maniplexes and a list that is a covering or is not -/
noncomputable def covC (ms ks : List (List Int)) (xs : List Int) : Int := if IsMan ms ∧ IsMan ks then (if IsCov ms ks xs then 0 else 2) else 1
theorem covC_1 (h : ¬ (IsMan ms ∧ IsMan ks)) : covC ms ks xs = 1 := if_neg h
theorem covC_2 (hm : IsMan ms) (hk : IsMan ks) (h : ¬ IsCov ms ks xs) : covC ms ks xs = 2 := by unfold covC; rw [if_pos ⟨hm, hk⟩, if_neg h]
theorem covC_3 (hm : IsMan ms) (hk : IsMan ks) (h : IsCov ms ks xs) : covC ms ks xs = 0 := by unfold covC; rw [if_pos ⟨hm, hk⟩, if_pos h]
theorem covC_0 (h : covC ms ks xs = 0) : IsMan ms ∧ IsMan ks ∧ IsCov ms ks xs := by
  unfold covC at h
  split at h
  · rename_i hm
    split at h
    · rename_i hc; exact ⟨hm.1, hm.2, hc⟩
    · omega
  · omega
noncomputable def fibC (ms ks : List (List Int)) (xs : List Int) (f : Int) : Int := if covC ms ks xs = 0 then (if 0 ≤ f ∧ f < nf ks then 0 else 2) else covC ms ks xs
noncomputable def fib (ms ks : List (List Int)) (xs : List Int) (f : Int) : List Int := if covC ms ks xs = 0 ∧ 0 ≤ f ∧ f < nf ks then plc xs f else []
theorem fib_1 {f : Int} (h : covC ms ks xs ≠ 0) : fib ms ks xs f = [] ∧ fibC ms ks xs f = covC ms ks xs := ⟨if_neg fun e => h e.1, if_neg h⟩
theorem fib_2 {f : Int} (h : covC ms ks xs = 0) (hf : ¬ (0 ≤ f ∧ f < nf ks)) : fib ms ks xs f = [] ∧ fibC ms ks xs f = 2 := ⟨if_neg fun e => hf e.2, by unfold fibC; rw [if_pos h, if_neg hf]⟩
theorem fib_3 {f : Int} (h : covC ms ks xs = 0) (hf : 0 ≤ f ∧ f < nf ks) : fib ms ks xs f = plc xs f ∧ fibC ms ks xs f = 0 := ⟨if_pos ⟨h, hf⟩, by unfold fibC; rw [if_pos h, if_pos hf]⟩
theorem fib_len (ms ks : List (List Int)) (xs : List Int) (f : Int) : (fib ms ks xs f).length ≤ 4000000000000000000 := by
  unfold fib
  split
  · rename_i h
    obtain ⟨hm, _, hc⟩ := covC_0 h.1
    have := plc_le xs f
    have := hc.1
    have := hm.m0.f400
    omega
  · simp
end
end Go.Mem
