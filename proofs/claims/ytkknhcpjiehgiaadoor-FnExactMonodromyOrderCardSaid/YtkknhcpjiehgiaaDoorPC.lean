/- Texts laid together: P16 P17 P18 P19. -/
import Derived.Test.YtkknhcpjiehgiaaDoorPB
/- Plain words on lists: standard automorphisms, symmetry types, fibres, normal coverings. No program in sight. -/
namespace Go.Mem
set_option linter.unusedVariables false
section
variable {ms ks : List (List Int)} {n : Nat} {xs : List Int}
theorem covers_gr : ∀ {n : Nat}, (covers ms ks n).length = n → ∀ f : Nat, f < n → mapT ms ks f = some (gr (covers ms ks n) f)
  | 0, _, f, hf => by omega
  | n + 1, h, f, hf => by
    cases e : mapT ms ks n with
    | none => rw [covers_none e] at h; have := covers_le ms ks n; omega
    | some q =>
      rw [covers_some e] at h ⊢
      have hl : (covers ms ks n).length = n := by simpa using h
      by_cases hfn : f = n
      · subst hfn
        rw [e]
        simp [gr, List.getD, hl]
      · have := covers_gr hl f (by omega)
        rw [this]
        have hlt : f < (covers ms ks n).length := by omega
        simp [gr, List.getD, List.getElem?_append_left hlt]

noncomputable def stdA (ms : List (List Int)) : List (List Int) := if IsMan ms ∧ labc (nf ms) (auts ms) = 1 then (List.range ms.length).map (fun k : Nat => (mapTo ms ms (gi (gr ms k) 0)).getD []) else []
noncomputable def stdAC (ms : List (List Int)) : Int := if IsMan ms then (if labc (nf ms) (auts ms) = 1 then 0 else 5) else 1
theorem stdA_1 (h : ¬ IsMan ms) : stdA ms = [] ∧ stdAC ms = 1 := ⟨if_neg fun h' => h h'.1, if_neg h⟩
theorem stdA_2 (hm : IsMan ms) (h : ¬ labc (nf ms) (auts ms) = 1) : stdA ms = [] ∧ stdAC ms = 5 := ⟨if_neg fun h' => h h'.2, by unfold stdAC; rw [if_pos hm, if_neg h]⟩
theorem stdA_3 (hm : IsMan ms) (h : labc (nf ms) (auts ms) = 1) : stdA ms = (List.range ms.length).map (fun k : Nat => (mapTo ms ms (gi (gr ms k) 0)).getD []) ∧ stdAC ms = 0 := ⟨if_pos ⟨hm, h⟩, by unfold stdAC; rw [if_pos hm, if_pos h]⟩
theorem labc_pos (hm : IsMan ms) : 1 ≤ labc (nf ms) (auts ms) := by
  have h2 := hm.m0.f2
  have h4 := hm.m0.f400
  have h := labs_all (auts_sym hm) (by omega)
  have h0 := h.done 0 (by omega) (by omega) (by omega)
  have h1 := h.rng 0 (by omega) (by omega)
  omega
theorem stdA_len (ms : List (List Int)) : 1 + tot (stdA ms) ≤ 4000000000000000000 := by
  unfold stdA
  split
  · rename_i h
    have h4 := h.1.m0.f400
    have h5 := h.1.m0.r5
    refine rows_tot (n := 1000) (by simp; omega) (fun xs hx => ?_) (by omega)
    obtain ⟨k, _, rfl⟩ := List.mem_map.1 hx
    have := opt_len (o := mapTo ms ms (gi (gr ms k) 0)) (n := nf ms) fun p hp => by rw [mapTo_len hp]; exact Nat.le_refl _
    omega
  · simp [tot]
theorem stdA_gr (hm : IsMan ms) (h : labc (nf ms) (auts ms) = 1) {k : Nat} (hk : k < ms.length) : mapTo ms ms (gi (gr ms k) 0) = some (gr (auts ms) (gi (gr ms k) 0)) := by
  have h2 := hm.m0.f2
  have hl := (regular_iff hm).2 h
  have hx := hm.syst.at (j := (k : Int)) (x := 0) (by omega) (by omega) (by omega)
  have := covers_gr hl (gi (gr ms k) 0).toNat (by omega)
  rw [show (((gi (gr ms k) 0).toNat : Nat) : Int) = gi (gr ms k) 0 by omega, mapT_self] at this
  exact this
theorem std_take_succ {k : Nat} (g : Nat → List Int) : (List.range (k + 1)).map g = (List.range k).map g ++ [g k] := by simp [List.range_succ]

/-- flags of one orbit: a move leads them to one orbit -/
theorem labs_move (hm : IsMan ms) {j : Nat} (hj : j < ms.length) {x y : Int} (hx : 0 ≤ x ∧ x < nf ms) (hy : 0 ≤ y ∧ y < nf ms) (e : gi (labs (nf ms) (auts ms)) x = gi (labs (nf ms) (auts ms)) y) :
    gi (labs (nf ms) (auts ms)) (gi (gr ms j) x) = gi (labs (nf ms) (auts ms)) (gi (gr ms j) y) := by
  have h4 := hm.m0.f400
  have h := labs_all (auts_sym hm) (by omega)
  have hd := h.done x hx.1 (by omega) (by omega)
  obtain ⟨p, hp, e2⟩ := (auts_rch hm hx).1 (h.only x y hx.1 hx.2 hy.1 hy.2 hd e.symm)
  have hmx := hm.syst.at (j := (j : Int)) (by omega) (by omega) hx
  have hr : Rch (auts ms) (gi (gr ms j) x) (gi (gr ms j) y) := (auts_rch hm hmx).2 ⟨p, hp, by rw [hp.mv j hj x hx.1 hx.2, e2]⟩
  exact (h.shut _ _ hmx.1 hmx.2 (h.done _ hmx.1 (by omega) hmx.2) hr).symm
/-- the first place of a number (or -1) -/
def idxOf (xs : List Int) (a : Int) : Int := idxF (fun x => decide (x = a)) xs
theorem idxOf_hit {a : Int} {i : Nat} (hi : i < xs.length) (h : gi xs i = a) (hb : ∀ j : Nat, j < i → gi xs j ≠ a) : idxOf xs a = i :=
  idxF_some hi (by simp [h]) fun j hj => by simp [hb j hj]
theorem idxOf_none {a : Int} (h : ∀ j : Nat, j < xs.length → gi xs j ≠ a) : idxOf xs a = -1 := idxF_none fun j hj => by simp [h j hj]
theorem idxOf_mem {a : Int} (h : a ∈ xs) : 0 ≤ idxOf xs a ∧ idxOf xs a < xs.length ∧ gi xs (idxOf xs a) = a := by
  unfold idxOf idxF
  cases e : xs.findIdx? (fun x => decide (x = a)) with
  | none =>
    rw [List.findIdx?_eq_none_iff] at e
    have := e a h
    simp at this
  | some i =>
    rw [List.findIdx?_eq_some_iff_getElem] at e
    obtain ⟨hi, he, _⟩ := e
    refine ⟨by simp only; omega, by simp only; omega, ?_⟩
    simpa [gi, List.getD, hi] using he
/-- to what orbits a move leads -/
def symRow (L : List Int) (c : Nat) (m : List Int) : List Int := (List.range c).map fun o : Nat => gi L (gi m (idxOf L o))
noncomputable def symT (ms : List (List Int)) : List (List Int) := if IsMan ms then ms.map (symRow (labs (nf ms) (auts ms)) (labc (nf ms) (auts ms)).toNat) else []
theorem symT_yes (h : IsMan ms) : symT ms = ms.map (symRow (labs (nf ms) (auts ms)) (labc (nf ms) (auts ms)).toNat) := if_pos h
theorem symT_no (h : ¬ IsMan ms) : symT ms = [] := if_neg h
theorem symT_len (ms : List (List Int)) : 1 + tot (symT ms) ≤ 4000000000000000000 := by
  unfold symT
  split
  · rename_i h
    have h4 := h.m0.f400
    have h5 := h.m0.r5
    have hc := (labs_all (auts_sym h) (by omega)).c0
    refine rows_tot (n := 1000) (by simp; omega) (fun xs hx => ?_) (by omega)
    obtain ⟨m, _, rfl⟩ := List.mem_map.1 hx
    simp [symRow]; omega
  · simp [tot]
theorem symRow_at (hm : IsMan ms) {j : Nat} (hj : j < ms.length) {to : List Int} (hl : to.length = (labc (nf ms) (auts ms)).toNat)
    (h : ∀ f : Nat, f < nf ms → gi to (gi (labs (nf ms) (auts ms)) f) = gi (labs (nf ms) (auts ms)) (gi (gr ms j) f)) : to = symRow (labs (nf ms) (auts ms)) (labc (nf ms) (auts ms)).toNat (gr ms j) := by
  have h4 := hm.m0.f400
  have hL := labs_all (auts_sym hm) (by omega)
  refine list_ext_gi (by simp [symRow, hl]) fun o h0 ho => ?_
  rw [hl] at ho
  unfold symRow
  rw [gi_range_map h0 (by omega)]
  obtain ⟨x, hx0, _, hx, e⟩ := hL.hit o h0 (by omega)
  have hmem : ((o.toNat : Nat) : Int) ∈ labs (nf ms) (auts ms) := by rw [show ((o.toNat : Nat) : Int) = o by omega, ← e]; exact gi_mem hx0 (by rw [hL.len]; exact hx)
  obtain ⟨i0, i1, i2⟩ := idxOf_mem hmem
  rw [hL.len] at i1
  rw [show ((o.toNat : Nat) : Int) = o by omega] at i0 i1 i2 ⊢
  have := h (idxOf (labs (nf ms) (auts ms)) o).toNat (by omega)
  rw [show (((idxOf (labs (nf ms) (auts ms)) o).toNat : Nat) : Int) = idxOf (labs (nf ms) (auts ms)) o by omega, i2] at this
  exact this

/-- the places of a number -/
def plc (xs : List Int) (a : Int) : List Int := ((List.range xs.length).filter fun i : Nat => decide (gi xs i = a)).map fun i : Nat => (i : Int)
def plcTo (xs : List Int) (a : Int) (k : Nat) : List Int := ((List.range k).filter fun i : Nat => decide (gi xs i = a)).map fun i : Nat => (i : Int)
theorem plcTo_hit {a : Int} {k : Nat} (h : gi xs k = a) : plcTo xs a (k + 1) = plcTo xs a k ++ [(k : Int)] := by
  unfold plcTo; rw [List.range_succ, List.filter_append, List.map_append]; simp [h]
theorem plcTo_miss {a : Int} {k : Nat} (h : gi xs k ≠ a) : plcTo xs a (k + 1) = plcTo xs a k := by
  unfold plcTo; rw [List.range_succ, List.filter_append, List.map_append]; simp [h]
theorem plcTo_le (xs : List Int) (a : Int) (k : Nat) : (plcTo xs a k).length ≤ k := by
  unfold plcTo; rw [List.length_map]; have := List.length_filter_le (fun i : Nat => decide (gi xs i = a)) (List.range k); simpa using this
theorem plc_le (xs : List Int) (a : Int) : (plc xs a).length ≤ xs.length := plcTo_le xs a xs.length
theorem mem_plc {a x : Int} : x ∈ plc xs a ↔ 0 ≤ x ∧ x < xs.length ∧ gi xs x = a := by
  unfold plc
  rw [List.mem_map]
  constructor
  · rintro ⟨i, hi, rfl⟩
    rw [List.mem_filter, List.mem_range] at hi
    exact ⟨by omega, by omega, by simpa using hi.2⟩
  · rintro ⟨h0, hx, e⟩
    exact ⟨x.toNat, by rw [List.mem_filter, List.mem_range]; exact ⟨by omega, by rw [show ((x.toNat : Nat) : Int) = x by omega]; simpa using e⟩, by omega⟩
/-- the code of two maniplexes and a list that is a covering or is not -/
noncomputable def covC (ms ks : List (List Int)) (xs : List Int) : Int := if IsMan ms ∧ IsMan ks then (if IsCov ms ks xs then 0 else 2) else 1
theorem covC_1 (h : ¬ (IsMan ms ∧ IsMan ks)) : covC ms ks xs = 1 := if_neg h
theorem covC_2 (hm : IsMan ms) (hk : IsMan ks) (h : ¬ IsCov ms ks xs) : covC ms ks xs = 2 := by unfold covC; rw [if_pos ⟨hm, hk⟩, if_neg h]
theorem covC_3 (hm : IsMan ms) (hk : IsMan ks) (h : IsCov ms ks xs) : covC ms ks xs = 0 := by unfold covC; rw [if_pos ⟨hm, hk⟩, if_pos h]
theorem covC_0 (h : covC ms ks xs = 0) : IsMan ms ∧ IsMan ks ∧ IsCov ms ks xs := by
  unfold covC at h
  split at h
  · rename_i hm
    split at h
    · rename_i hc; exact ⟨hm.1, hm.2, hc⟩
    · omega
  · omega
noncomputable def fibC (ms ks : List (List Int)) (xs : List Int) (f : Int) : Int := if covC ms ks xs = 0 then (if 0 ≤ f ∧ f < nf ks then 0 else 2) else covC ms ks xs
noncomputable def fib (ms ks : List (List Int)) (xs : List Int) (f : Int) : List Int := if covC ms ks xs = 0 ∧ 0 ≤ f ∧ f < nf ks then plc xs f else []
theorem fib_1 {f : Int} (h : covC ms ks xs ≠ 0) : fib ms ks xs f = [] ∧ fibC ms ks xs f = covC ms ks xs := ⟨if_neg fun e => h e.1, if_neg h⟩
theorem fib_2 {f : Int} (h : covC ms ks xs = 0) (hf : ¬ (0 ≤ f ∧ f < nf ks)) : fib ms ks xs f = [] ∧ fibC ms ks xs f = 2 := ⟨if_neg fun e => hf e.2, by unfold fibC; rw [if_pos h, if_neg hf]⟩
theorem fib_3 {f : Int} (h : covC ms ks xs = 0) (hf : 0 ≤ f ∧ f < nf ks) : fib ms ks xs f = plc xs f ∧ fibC ms ks xs f = 0 := ⟨if_pos ⟨h, hf⟩, by unfold fibC; rw [if_pos h, if_pos hf]⟩
theorem fib_len (ms ks : List (List Int)) (xs : List Int) (f : Int) : (fib ms ks xs f).length ≤ 4000000000000000000 := by
  unfold fib
  split
  · rename_i h
    obtain ⟨hm, _, hc⟩ := covC_0 h.1
    have := plc_le xs f
    have := hc.1
    have := hm.m0.f400
    omega
  · simp
end
end Go.Mem

/- Plain words on lists: the moves of a deck; fibres are all as large. No program in sight. -/
namespace Go.Mem
set_option linter.unusedVariables false
section
variable {ms ks : List (List Int)} {n : Nat} {xs : List Int}
theorem IsCov.hom (hm : IsMan ms) (hk : IsMan ks) (h : IsCov ms ks xs) : ms.length = ks.length ∧ Hom ms ks xs := by
  have := (mapT_iff hm hk h.2.1).1 h.2.2
  exact ⟨this.1, this.2.1⟩
theorem filterMap_eq {α β : Type} {f g : α → Option β} : ∀ {l : List α}, (∀ x ∈ l, f x = g x) → l.filterMap f = l.filterMap g
  | [], _ => rfl
  | a :: l, h => by
    rw [List.filterMap_cons, List.filterMap_cons, h a (by simp), filterMap_eq (fun x hx => h x (List.mem_cons_of_mem _ hx))]
/-- the automorphisms that keep all fibres -/
def deck (ms : List (List Int)) (xs : List Int) : List (List Int) := (auts ms).filter fun p => decide (gi xs (gi p 0) = gi xs 0)
theorem deck_aft (hm : IsMan ms) (hk : IsMan ks) (h : IsCov ms ks xs) {p : List Int} (hp : p ∈ auts ms) : aft p xs = xs ↔ gi xs (gi p 0) = gi xs 0 := by
  have h2 := hm.m0.f2
  obtain ⟨hl, hx⟩ := h.hom hm hk
  have hp' := (mem_auts hm).1 hp
  have e : gi (aft p xs) 0 = gi xs (gi p 0) := gi_aft (by omega) (by rw [hp'.len]; omega)
  constructor
  · intro h1; rw [← e, h1]
  · intro h1
    exact (hp'.aft hx hm rfl).same hm hx (a := 0) (by omega) (by rw [e, h1])
theorem deck_filter (hm : IsMan ms) (hk : IsMan ks) (h : IsCov ms ks xs) : (auts ms).filter (fun p => decide (aft p xs = xs)) = deck ms xs :=
  List.filter_congr fun p hp => by rw [decide_eq_decide]; exact deck_aft hm hk h hp
theorem deck_fibre (hm : IsMan ms) (hl : xs.length = nf ms) : (plc xs (gi xs 0)).filterMap (fun f => mapTo ms ms f) = deck ms xs := by
  unfold deck auts covers plc
  rw [hl, List.filterMap_map, List.filter_filterMap, List.filterMap_filter]
  refine filterMap_eq fun f hf => ?_
  have hf := List.mem_range.1 hf
  simp only [Function.comp_apply, mapT_self]
  cases e : mapTo ms ms f with
  | none => simp
  | some p =>
    have h0 : gi p 0 = f := (mapTo_hom hm hm rfl ⟨by omega, by omega⟩ e).2
    by_cases h : gi xs f = gi xs 0
    · simp [h, h0, Option.filter]
    · simp [h, h0, Option.filter]
theorem deck_le (hm : IsMan ms) : (deck ms xs).length ≤ 400 := by
  have := List.length_filter_le (fun p => decide (gi xs (gi p 0) = gi xs 0)) (auts ms)
  have := auts_le hm
  unfold deck; omega

theorem plc_nodup (xs : List Int) (a : Int) : (plc xs a).Nodup := by
  unfold plc
  exact List.pairwise_map.2 ((List.nodup_range.filter _).imp fun h e => h (by omega))
theorem plc_step (hm : IsMan ms) (hl : ms.length = ks.length) (hx : Hom ms ks xs) {j : Nat} (hj : j < ms.length) (y : Int) : (plc xs y).length ≤ (plc xs (gi (gr ks j) y)).length := by
  have hin : ∀ x ∈ plc xs y, 0 ≤ x ∧ x < nf ms := fun x h => by have := mem_plc.1 h; rw [hx.len] at this; exact ⟨this.1, this.2.1⟩
  have := List.Nodup.length_le_of_subset (l₁ := (plc xs y).map (gi (gr ms j))) (l₂ := plc xs (gi (gr ks j) y)) (by
    refine List.pairwise_map.2 ((plc_nodup xs y).imp_of_mem fun {a b} ha hb hne e => hne ?_)
    have h1 := hm.m0.twice (m := gr ms j) (gr_in hj) (hin a ha)
    have h2 := hm.m0.twice (m := gr ms j) (gr_in hj) (hin b hb)
    rw [← h1, ← h2, e]) (by
    intro z hz
    obtain ⟨x, hxm, rfl⟩ := List.mem_map.1 hz
    have hxr := hin x hxm
    have hv := hm.syst.at (j := (j : Int)) (by omega) (by omega) hxr
    refine mem_plc.2 ⟨hv.1, by rw [hx.len]; exact hv.2, ?_⟩
    rw [hx.mv j hj x hxr.1 hxr.2, (mem_plc.1 hxm).2.2])
  simpa using this
theorem plc_rch (hm : IsMan ms) (hl : ms.length = ks.length) (hx : Hom ms ks xs) {y z : Int} (hr : Rch ks y z) : (plc xs y).length ≤ (plc xs z).length := by
  induction hr with
  | refl => exact Nat.le_refl _
  | step _ hmm ih =>
    obtain ⟨j, hj, rfl⟩ := mem_gr hmm
    exact Nat.le_trans ih (plc_step hm hl hx (by omega) _)
theorem plc_same (hm : IsMan ms) (hk : IsMan ks) (hl : ms.length = ks.length) (hx : Hom ms ks xs) {y : Int} (h0 : 0 ≤ y) (hy : y < nf ks) : (plc xs y).length = (plc xs 0).length := by
  have hk2 := hk.m0.f2
  have hr := hk.all h0 hy
  exact Nat.le_antisymm (plc_rch hm hl hx (hk.sym.back 0 y (by omega) (by omega) hr)) (plc_rch hm hl hx hr)
/-- the sum of f below k -/
def sumTo (f : Nat → Nat) : Nat → Nat
  | 0 => 0
  | k + 1 => sumTo f k + f k
theorem sumTo_const {f : Nat → Nat} {c : Nat} : ∀ {k : Nat}, (∀ y, y < k → f y = c) → sumTo f k = k * c
  | 0, _ => by simp [sumTo]
  | k + 1, h => by
    rw [sumTo, sumTo_const (fun y hy => h y (by omega)), h k (by omega), Nat.succ_mul]
theorem sumTo_one {x : Int} {g : Nat → Nat} : ∀ {k : Nat}, sumTo (fun y => (if x = (y : Int) then 1 else 0) + g y) k = (if 0 ≤ x ∧ x < k then 1 else 0) + sumTo g k
  | 0 => by simp [sumTo] <;> omega
  | k + 1 => by
    rw [sumTo, sumTo_one, sumTo]
    by_cases h1 : x = (k : Int)
    · rw [if_pos h1, if_neg (by omega), if_pos (by omega)]; omega
    · rw [if_neg h1]
      by_cases h2 : 0 ≤ x ∧ x < k
      · rw [if_pos h2, if_pos (by omega)]; omega
      · rw [if_neg h2, if_neg (by omega)]; omega
def cnt (xs : List Int) (a : Int) : Nat := (xs.filter fun x => decide (x = a)).length
theorem sum_cnt {k : Nat} : ∀ (xs : List Int), (∀ x ∈ xs, 0 ≤ x ∧ x < k) → sumTo (fun y => cnt xs y) k = xs.length
  | [], _ => by
    have : ∀ k, sumTo (fun y => cnt [] y) k = 0 := fun k => by induction k with | zero => rfl | succ k ih => rw [sumTo, ih]; rfl
    rw [this]; rfl
  | x :: xs, h => by
    have e : (fun y : Nat => cnt (x :: xs) y) = fun y : Nat => (if x = (y : Int) then 1 else 0) + cnt xs y := by
      funext y
      unfold cnt
      rw [List.filter_cons]
      by_cases hxy : x = (y : Int)
      · simp [hxy]; omega
      · simp [hxy]
    rw [e, sumTo_one, sum_cnt xs (fun y hy => h y (List.mem_cons_of_mem _ hy)), if_pos (h x (by simp))]
    simp; omega
theorem plc_cnt (xs : List Int) (a : Int) : (plc xs a).length = cnt xs a := by
  unfold plc cnt
  rw [List.length_map]
  have e : xs = (List.range xs.length).map (fun i : Nat => gi xs i) := list_ext_gi (by simp) fun j h0 hj => by
    rw [gi_range_map h0 (by omega), show ((j.toNat : Nat) : Int) = j by omega]
  have := congrArg (fun l : List Int => (l.filter fun x => decide (x = a)).length) e
  simp only [List.filter_map, List.length_map] at this
  rw [this]
  rfl
theorem fibre_size (hm : IsMan ms) (hk : IsMan ks) (h : IsCov ms ks xs) : nf ms = nf ks * (plc xs 0).length := by
  obtain ⟨hl, hx⟩ := h.hom hm hk
  have h1 := sum_cnt (k := nf ks) xs fun x hxm => by
    obtain ⟨i, hi, rfl⟩ := in_gi hxm
    exact hx.rng i (by omega) (by rw [← hx.len]; omega)
  rw [sumTo_const (c := (plc xs 0).length) (fun y hy => by rw [← plc_cnt]; exact plc_same hm hk hl hx (by omega) (by omega)), hx.len] at h1
  exact h1.symm
/-- as many moves of the deck as flags in a fibre -/
noncomputable def isNorm (ms ks : List (List Int)) (xs : List Int) : Bool := if covC ms ks xs = 0 then decide ((deck ms xs).length = (plc xs 0).length) else false
theorem isNorm_no (h : covC ms ks xs ≠ 0) : isNorm ms ks xs = false := if_neg h
theorem isNorm_yes (h : covC ms ks xs = 0) : isNorm ms ks xs = decide ((deck ms xs).length = (plc xs 0).length) := if_pos h
theorem norm_iff (hm : IsMan ms) (hk : IsMan ks) (h : IsCov ms ks xs) : (deck ms xs).length * nf ks = nf ms ↔ (deck ms xs).length = (plc xs 0).length := by
  have h2 := hk.m0.f2
  rw [fibre_size hm hk h, Nat.mul_comm]
  constructor
  · intro e; exact Nat.eq_of_mul_eq_mul_left (by omega) e
  · intro e; rw [e]
end
end Go.Mem

/- Plain words on lists: faces, and what automorphisms do with them. No program in sight. -/
namespace Go.Mem
set_option linter.unusedVariables false
/-- numbers laid at places, one after the other -/
def laidTo (c : Nat) (L : List Int) (v : Nat → Int) : Nat → List Int
  | 0 => List.replicate c 0
  | k + 1 => seti (laidTo c L v k) (gi L k) (v k)
theorem length_laidTo (c : Nat) (L : List Int) (v : Nat → Int) : ∀ k, (laidTo c L v k).length = c
  | 0 => by simp [laidTo]
  | k + 1 => by simp [laidTo, length_laidTo c L v k]
theorem gi_laidTo {c : Nat} {L : List Int} {v : Nat → Int} (hL : ∀ j : Nat, j < L.length → 0 ≤ gi L j ∧ gi L j < c) (hv : ∀ i j : Nat, i < L.length → j < L.length → gi L i = gi L j → v i = v j) :
    ∀ k : Nat, k ≤ L.length → ∀ j : Nat, j < k → gi (laidTo c L v k) (gi L j) = v j
  | 0, _, j, hj => by omega
  | k + 1, hk, j, hj => by
    have h1 := hL k (by omega)
    have h2 := hL j (by omega)
    rw [laidTo, gi_seti _ _ _ _ h1.1 (by rw [length_laidTo]; exact h1.2) h2.1]
    split
    · rename_i e; exact hv k j (by omega) (by omega) e.symm
    · rename_i e
      by_cases hjk : j = k
      · subst hjk; exact absurd rfl e
      · exact gi_laidTo hL hv k (by omega) j (by omega)
section
variable {A ms ks : List (List Int)} {n : Nat} {L p : List Int} {c : Int}
/-- p is a map of the points that commutes with all of A -/
structure Comm (n : Nat) (A : List (List Int)) (p : List Int) : Prop where
  len : p.length = n
  rng : ∀ x : Int, 0 ≤ x → x < n → 0 ≤ gi p x ∧ gi p x < n
  com : ∀ m ∈ A, ∀ x : Int, 0 ≤ x → x < n → gi p (gi m x) = gi m (gi p x)
theorem Comm.rch (h : Comm n A p) (hs : Syst n A) {x y : Int} (hx : 0 ≤ x ∧ x < n) (hr : Rch A x y) : Rch A (gi p x) (gi p y) := by
  induction hr with
  | refl => exact .refl _
  | @step y m hr hm ih =>
    have hy := hr.rng hs hx
    rw [h.com m hm y hy.1 hy.2]
    exact .step ih hm
theorem Comm.lab (h : Comm n A p) (hs : Sym n A) (hn : n ≤ 1000) {x y : Int} (hx : 0 ≤ x ∧ x < n) (hy : 0 ≤ y ∧ y < n) (e : gi (labs n A) x = gi (labs n A) y) : gi (labs n A) (gi p x) = gi (labs n A) (gi p y) := by
  have hL := labs_all hs hn
  have hd := hL.done x hx.1 (by omega) hx.2
  have hr := h.rch hs.syst hx (hL.only x y hx.1 hx.2 hy.1 hy.2 hd e.symm)
  have hp := h.rng x hx.1 hx.2
  exact (hL.shut _ _ hp.1 hp.2 (hL.done _ hp.1 (by omega) hp.2) hr).symm
theorem symRow_laid (h : Comm n A p) (hs : Sym n A) (hn : n ≤ 1000) : laidTo (labc n A).toNat (labs n A) (fun f => gi (labs n A) (gi p f)) n = symRow (labs n A) (labc n A).toNat p := by
  have hL := labs_all hs hn
  have hc := hL.c0
  refine list_ext_gi (by simp [symRow, length_laidTo]) fun o h0 ho => ?_
  rw [length_laidTo] at ho
  obtain ⟨x, hx0, _, hx, e⟩ := hL.hit o h0 (by omega)
  have hmem : o ∈ labs n A := by rw [← e]; exact gi_mem hx0 (by rw [hL.len]; exact hx)
  obtain ⟨i0, i1, i2⟩ := idxOf_mem hmem
  rw [hL.len] at i1
  unfold symRow
  rw [gi_range_map h0 (by omega), show ((o.toNat : Nat) : Int) = o by omega]
  have := gi_laidTo (c := (labc n A).toNat) (L := labs n A) (v := fun f => gi (labs n A) (gi p f)) (fun j hj => by
    rw [hL.len] at hj
    have h1 := hL.done j (by omega) (by omega) (by omega)
    have h2 := hL.rng j (by omega) (by omega)
    omega) (fun i j hi hj e => by
    rw [hL.len] at hi hj
    exact h.lab hs hn (by omega) (by omega) e) n (by rw [hL.len]; exact Nat.le_refl _) (idxOf (labs n A) o).toNat (by omega)
  rw [show (((idxOf (labs n A) o).toNat : Nat) : Int) = idxOf (labs n A) o by omega, i2] at this
  exact this
theorem gi_symRow (h : Comm n A p) (hs : Sym n A) (hn : n ≤ 1000) {x : Int} (hx : 0 ≤ x ∧ x < n) : gi (symRow (labs n A) (labc n A).toNat p) (gi (labs n A) x) = gi (labs n A) (gi p x) := by
  have hL := labs_all hs hn
  have h0 := hL.done x hx.1 (by omega) hx.2
  have h1 := hL.rng x hx.1 hx.2
  obtain ⟨i0, i1, i2⟩ := idxOf_mem (xs := labs n A) (a := gi (labs n A) x) (gi_mem hx.1 (by rw [hL.len]; exact hx.2))
  rw [hL.len] at i1
  unfold symRow
  rw [gi_range_map h0 (by omega), show (((gi (labs n A) x).toNat : Nat) : Int) = gi (labs n A) x by omega]
  exact h.lab hs hn ⟨i0, i1⟩ hx i2
@[simp] theorem length_symRow (L : List Int) (c : Nat) (p : List Int) : (symRow L c p).length = c := by simp [symRow]

/-! ### Faces -/
/-- all moves but one -/
def oth (ms : List (List Int)) (i : Int) : List (List Int) := ms.eraseIdx i.toNat
theorem oth_mem {i : Int} {m : List Int} (h : m ∈ oth ms i) : m ∈ ms := List.mem_of_mem_eraseIdx h
theorem oth_sym (hm : IsMan ms) (i : Int) : Sym (nf ms) (oth ms i) :=
  sym_of_twice (fun m h => hm.syst m (oth_mem h)) fun m h x hx => hm.m0.twice (oth_mem h) hx
def facL (ms : List (List Int)) (i : Int) : List Int := labs (nf ms) (oth ms i)
def facC (ms : List (List Int)) (i : Int) : Int := labc (nf ms) (oth ms i)
theorem aut_comm (hm : IsMan ms) (hp : Hom ms ms p) (i : Int) : Comm (nf ms) (oth ms i) p :=
  ⟨hp.len, hp.rng, fun m h x h0 hx => by
    obtain ⟨j, hj, rfl⟩ := mem_gr (oth_mem h)
    exact hp.mv j hj x h0 hx⟩
/-- what the automorphisms do with the faces of rank i -/
def facA (ms : List (List Int)) (i : Int) : List (List Int) := (auts ms).map (symRow (facL ms i) (facC ms i).toNat)
theorem facL_all (hm : IsMan ms) (i : Int) : Labs (nf ms) (oth ms i) (nf ms) (facL ms i) (facC ms i) := labs_all (oth_sym hm i) (by have := hm.m0.f400; omega)
theorem facC_pos (hm : IsMan ms) (i : Int) : 1 ≤ facC ms i ∧ facC ms i ≤ 400 := by
  have h2 := hm.m0.f2
  have h4 := hm.m0.f400
  have h := facL_all hm i
  have h0 := h.done 0 (by omega) (by omega) (by omega)
  have h1 := h.rng 0 (by omega) (by omega)
  have := h.c0
  omega
theorem facA_at (hm : IsMan ms) (i : Int) {x : Int} (hx : 0 ≤ x ∧ x < nf ms) (hp : Hom ms ms p) : gi (symRow (facL ms i) (facC ms i).toNat p) (gi (facL ms i) x) = gi (facL ms i) (gi p x) :=
  gi_symRow (aut_comm hm hp i) (oth_sym hm i) (by have := hm.m0.f400; omega) hx
theorem facL_hit (hm : IsMan ms) (i : Int) {a : Int} (h0 : 0 ≤ a) (ha : a < facC ms i) : 0 ≤ idxOf (facL ms i) a ∧ idxOf (facL ms i) a < nf ms ∧ gi (facL ms i) (idxOf (facL ms i) a) = a := by
  have h := facL_all hm i
  obtain ⟨x, hx0, _, hx, e⟩ := h.hit a h0 ha
  have := idxOf_mem (xs := facL ms i) (a := a) (by rw [← e]; exact gi_mem hx0 (by rw [h.len]; exact hx))
  rw [h.len] at this
  exact this
theorem facL_rng (hm : IsMan ms) (i : Int) {x : Int} (hx : 0 ≤ x ∧ x < nf ms) : 0 ≤ gi (facL ms i) x ∧ gi (facL ms i) x < facC ms i := by
  have h := facL_all hm i
  exact ⟨h.done x hx.1 (by omega) hx.2, (h.rng x hx.1 hx.2).2⟩
theorem facA_syst (hm : IsMan ms) (i : Int) : Syst (facC ms i).toNat (facA ms i) := fun m h => by
  obtain ⟨p, hp, rfl⟩ := List.mem_map.1 h
  have hp := (mem_auts hm).1 hp
  have hc := facC_pos hm i
  refine ⟨by simp, fun x hx => ?_⟩
  obtain ⟨a, ha, rfl⟩ := in_gi hx
  rw [length_symRow] at ha
  obtain ⟨h1, h2, h3⟩ := facL_hit hm i (a := (a : Int)) (by omega) (by omega)
  rw [← h3, facA_at hm i ⟨h1, h2⟩ hp]
  have := facL_rng hm i (hp.rng _ h1 h2)
  omega
theorem facA_rch (hm : IsMan ms) (i : Int) {x y : Int} (hx : 0 ≤ x ∧ x < nf ms) : Rch (facA ms i) (gi (facL ms i) x) y ↔ ∃ p, Hom ms ms p ∧ gi (facL ms i) (gi p x) = y := by
  constructor
  · intro h
    induction h with
    | refl => exact ⟨_, Hom.idl hm, by rw [gi_idl hx.1 hx.2]⟩
    | @step y m hr hq ih =>
      obtain ⟨p, hp, rfl⟩ := ih
      obtain ⟨q, hq2, rfl⟩ := List.mem_map.1 hq
      have hq := (mem_auts hm).1 hq2
      refine ⟨_, hp.aft hq hm rfl, ?_⟩
      rw [gi_aft hx.1 (by rw [hp.len]; exact hx.2), facA_at hm i (hp.rng _ hx.1 hx.2) hq]
  · rintro ⟨p, hp, rfl⟩
    rw [← facA_at hm i hx hp]
    exact .step (.refl _) (List.mem_map_of_mem ((mem_auts hm).2 hp))
theorem facA_sym (hm : IsMan ms) (i : Int) : Sym (facC ms i).toNat (facA ms i) := by
  have hc := facC_pos hm i
  refine ⟨facA_syst hm i, fun a b h0 ha hr => ?_⟩
  obtain ⟨h1, h2, h3⟩ := facL_hit hm i (a := a) h0 (by omega)
  rw [← h3] at hr ⊢
  obtain ⟨p, hp, rfl⟩ := (facA_rch hm i ⟨h1, h2⟩).1 hr
  obtain ⟨q, hq, e, _⟩ := hp.inv hm hm rfl rfl
  have hy := hp.rng _ h1 h2
  exact (facA_rch hm i hy).2 ⟨q, hq, by rw [e _ h1 h2]⟩
theorem setAll_fac (hm : IsMan ms) (i : Int) {O : List Int} {c a : Int} (h0 : 0 ≤ a) (ha : a < facC ms i) (hl : O.length = (facC ms i).toNat) :
    setAll O c ((auts ms).map fun p => gi (facL ms i) (gi p (idxOf (facL ms i) a))) = lab1 (facA ms i) O c a := by
  have hc := facC_pos hm i
  obtain ⟨h1, h2, h3⟩ := facL_hit hm i (a := a) h0 ha
  have hrng : ∀ x ∈ (auts ms).map (fun p => gi (facL ms i) (gi p (idxOf (facL ms i) a))), 0 ≤ x ∧ x < ((facC ms i).toNat : Int) := fun x hx => by
    obtain ⟨p, hp, rfl⟩ := List.mem_map.1 hx
    have := facL_rng hm i (((mem_auts hm).1 hp).rng _ h1 h2)
    omega
  refine list_ext_gi (by rw [length_setAll, length_lab1]) fun x hx0 hx => ?_
  rw [length_setAll] at hx
  rw [gi_setAll c _ _ hl hrng x hx0, gi_lab1 hx0 hx]
  have hiff : x ∈ (auts ms).map (fun p => gi (facL ms i) (gi p (idxOf (facL ms i) a))) ↔ x ∈ orbit (facA ms i) a := by
    rw [mem_orbit (facA_syst hm i) (by omega) (by omega)]
    have := facA_rch hm i (x := idxOf (facL ms i) a) (y := x) ⟨h1, h2⟩
    rw [h3] at this
    rw [this, List.mem_map]
    exact ⟨fun ⟨p, hp, e⟩ => ⟨p, (mem_auts hm).1 hp, e⟩, fun ⟨p, hp, e⟩ => ⟨p, (mem_auts hm).2 hp, e⟩⟩
  by_cases h : x ∈ orbit (facA ms i) a
  · rw [if_pos h, if_pos (hiff.2 h)]
  · rw [if_neg h, if_neg fun h' => h (hiff.1 h')]

noncomputable def rkC (ms : List (List Int)) (i : Int) : Int := if IsMan ms then (if 0 ≤ i ∧ i < ms.length then 0 else 2) else 1
theorem rkC_1 {i : Int} (h : ¬ IsMan ms) : rkC ms i = 1 := if_neg h
theorem rkC_2 {i : Int} (h : IsMan ms) (hi : ¬ (0 ≤ i ∧ i < ms.length)) : rkC ms i = 2 := by unfold rkC; rw [if_pos h, if_neg hi]
theorem rkC_3 {i : Int} (h : IsMan ms) (hi : 0 ≤ i ∧ i < ms.length) : rkC ms i = 0 := by unfold rkC; rw [if_pos h, if_pos hi]
theorem rkC_0 {i : Int} (h : rkC ms i = 0) : IsMan ms ∧ 0 ≤ i ∧ i < ms.length := by
  unfold rkC at h
  split at h
  · rename_i hm
    split at h
    · rename_i hi; exact ⟨hm, hi⟩
    · omega
  · omega
noncomputable def facO (ms : List (List Int)) (i : Int) : List Int := if rkC ms i = 0 then labs (facC ms i).toNat (facA ms i) else []
theorem facO_no {i : Int} (h : rkC ms i ≠ 0) : facO ms i = [] := if_neg h
theorem facO_yes {i : Int} (h : rkC ms i = 0) : facO ms i = labs (facC ms i).toNat (facA ms i) := if_pos h
theorem facO_len (ms : List (List Int)) (i : Int) : (facO ms i).length ≤ 4000000000000000000 := by
  unfold facO
  split
  · rename_i h
    obtain ⟨hm, _⟩ := rkC_0 h
    have hc := facC_pos hm i
    rw [(labs_all (facA_sym hm i) (by omega)).len]; omega
  · simp
noncomputable def isTr (ms : List (List Int)) (i : Int) : Bool := if rkC ms i = 0 then decide (labc (facC ms i).toNat (facA ms i) = 1) else false
theorem isTr_no {i : Int} (h : rkC ms i ≠ 0) : isTr ms i = false := if_neg h
theorem isTr_yes {i : Int} (h : rkC ms i = 0) : isTr ms i = decide (labc (facC ms i).toNat (facA ms i) = 1) := if_pos h
end
end Go.Mem

/- Plain words on lists: what a covering does with faces; the greatest of a list. No program in sight. -/
namespace Go.Mem
set_option linter.unusedVariables false
section
variable {ms ks : List (List Int)} {xs : List Int} {i : Int}
noncomputable def facM (ms ks : List (List Int)) (xs : List Int) (i : Int) : List Int :=
  if covC ms ks xs = 0 ∧ 0 ≤ i ∧ i < ms.length then laidTo (facC ms i).toNat (facL ms i) (fun f => gi (facL ks i) (gi xs f)) (nf ms) else []
noncomputable def facMC (ms ks : List (List Int)) (xs : List Int) (i : Int) : Int := if covC ms ks xs = 0 then (if 0 ≤ i ∧ i < ms.length then 0 else 2) else covC ms ks xs
theorem facM_1 (h : covC ms ks xs ≠ 0) : facM ms ks xs i = [] ∧ facMC ms ks xs i = covC ms ks xs := ⟨if_neg fun e => h e.1, if_neg h⟩
theorem facM_2 (h : covC ms ks xs = 0) (hf : ¬ (0 ≤ i ∧ i < ms.length)) : facM ms ks xs i = [] ∧ facMC ms ks xs i = 2 := ⟨if_neg fun e => hf e.2, by unfold facMC; rw [if_pos h, if_neg hf]⟩
theorem facM_3 (h : covC ms ks xs = 0) (hf : 0 ≤ i ∧ i < ms.length) : facM ms ks xs i = laidTo (facC ms i).toNat (facL ms i) (fun f => gi (facL ks i) (gi xs f)) (nf ms) ∧ facMC ms ks xs i = 0 :=
  ⟨if_pos ⟨h, hf⟩, by unfold facMC; rw [if_pos h, if_pos hf]⟩
theorem facM_len (ms ks : List (List Int)) (xs : List Int) (i : Int) : (facM ms ks xs i).length ≤ 4000000000000000000 := by
  unfold facM
  split
  · rename_i h
    obtain ⟨hm, _, hc⟩ := covC_0 h.1
    have := facC_pos hm i
    rw [length_laidTo]; omega
  · simp
theorem facA_take {k : Nat} (hk : k < (auts ms).length) (L : List Int) (c : Nat) : ((auts ms).take (k + 1)).map (symRow L c) = ((auts ms).take k).map (symRow L c) ++ [symRow L c (gr (auts ms) k)] := by
  rw [List.take_succ_eq_append_getElem hk, List.map_append]
  simp [gr, List.getD, hk]
theorem auts_pos (hm : IsMan ms) : 1 ≤ (auts ms).length := by
  have := (mem_auts hm).2 (Hom.idl hm)
  have := List.length_pos_of_mem this
  omega
theorem auts_gr (hm : IsMan ms) {k : Nat} (hk : k < (auts ms).length) : Hom ms ms (gr (auts ms) k) := (mem_auts hm).1 (gr_in hk)
/-- the greatest (of some) -/
def mxs (xs : List Int) : Int := xs.foldl max (gi xs 0)
theorem foldl_max : ∀ (xs : List Int) (m : Int), m ≤ xs.foldl max m ∧ (∀ x ∈ xs, x ≤ xs.foldl max m) ∧ (xs.foldl max m = m ∨ xs.foldl max m ∈ xs)
  | [], m => by simp
  | x :: xs, m => by
    obtain ⟨a, b, c⟩ := foldl_max xs (max m x)
    refine ⟨by rw [List.foldl_cons]; omega, fun y hy => ?_, ?_⟩
    · rw [List.foldl_cons]
      rcases List.mem_cons.1 hy with rfl | hy
      · omega
      · exact b y hy
    · rw [List.foldl_cons]
      rcases c with c | c
      · rcases Int.le_total m x with h | h
        · right; rw [c, Int.max_eq_right h]; simp
        · left; rw [c, Int.max_eq_left h]
      · right; exact List.mem_cons_of_mem _ c
theorem mxs_eq {xs : List Int} {c : Int} (h1 : 1 ≤ xs.length) (h : ∀ x ∈ xs, x ≤ c) (hc : c ∈ xs) : mxs xs = c := by
  obtain ⟨a, b, d⟩ := foldl_max xs (gi xs 0)
  have h0 := h _ (gi_in (xs := xs) (j := 0) (by omega))
  have hb := b c hc
  unfold mxs
  rcases d with d | d
  · rw [d] at hb ⊢; simp at h0; omega
  · have := h _ d; omega
theorem mxs_labs {n : Nat} {A : List (List Int)} (hs : Sym n A) (hn : n ≤ 1000) (h1 : 1 ≤ n) : mxs (labs n A) = labc n A - 1 := by
  have h := labs_all hs hn
  have h0 := h.done 0 (by omega) (by omega) (by omega)
  have hr := h.rng 0 (by omega) (by omega)
  obtain ⟨x, hx0, _, hx, e⟩ := h.hit (labc n A - 1) (by omega) (by omega)
  refine mxs_eq (by rw [h.len]; omega) (fun y hy => ?_) (by rw [← e]; exact gi_mem hx0 (by rw [h.len]; exact hx))
  have := (h.mem y hy).2
  omega
theorem mxs_take {xs : List Int} {k : Nat} (hk : k < xs.length) (h0 : 0 < k) : (xs.take (k + 1)).foldl max (gi xs 0) = max ((xs.take k).foldl max (gi xs 0)) (gi xs k) := by
  rw [take_gi hk, List.foldl_append]; rfl
end
end Go.Mem
