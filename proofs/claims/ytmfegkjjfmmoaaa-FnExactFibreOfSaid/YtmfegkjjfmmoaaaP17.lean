/- Plain words on lists: the moves of a deck; fibres are all as large. No program in sight. -/
import Derived.Test.YtmfegkjjfmmoaaaP16
namespace Go.Mem
set_option linter.unusedVariables false
section
variable {ms ks : List (List Int)} {n : Nat} {xs : List Int}
theorem IsCov.hom (hm : IsMan ms) (hk : IsMan ks) (h : IsCov ms ks xs) : ms.length = ks.length ∧ Hom ms ks xs := by
  have := (mapT_iff hm hk h.2.1).1 h.2.2
  exact ⟨this.1, this.2.1⟩
theorem filterMap_eq {α β : Type} {f g : α → Option β} : ∀ {l : List α}, (∀ x ∈ l, f x = g x) → l.filterMap f = l.filterMap g
  | [], _ => rfl
  | a :: l, h => by
    rw [List.filterMap_cons, List.filterMap_cons, h a (by simp), filterMap_eq (fun x hx => h x (List.mem_cons_of_mem _ hx))]
/-- the automorphisms that keep all fibres -/
def deck (ms : List (List Int)) (xs : List Int) : List (List Int) := (auts ms).filter fun p => decide (gi xs (gi p 0) = gi xs 0)
theorem deck_aft (hm : IsMan ms) (hk : IsMan ks) (h : IsCov ms ks xs) {p : List Int} (hp : p ∈ auts ms) : aft p xs = xs ↔ gi xs (gi p 0) = gi xs 0 := by
  have h2 := hm.m0.f2
  obtain ⟨hl, hx⟩ := h.hom hm hk
  have hp' := (mem_auts hm).1 hp
  have e : gi (aft p xs) 0 = gi xs (gi p 0) := gi_aft (by omega) (by rw [hp'.len]; omega)
  constructor
  · intro h1; rw [← e, h1]
  · intro h1
    exact (hp'.aft hx hm rfl).same hm hx (a := 0) (by omega) (by rw [e, h1])
theorem deck_filter (hm : IsMan ms) (hk : IsMan ks) (h : IsCov ms ks xs) : (auts ms).filter (fun p => decide (aft p xs = xs)) = deck ms xs :=
  List.filter_congr fun p hp => by rw [decide_eq_decide]; exact deck_aft hm hk h hp
theorem deck_fibre (hm : IsMan ms) (hl : xs.length = nf ms) : (plc xs (gi xs 0)).filterMap (fun f => mapTo ms ms f) = deck ms xs := by
  unfold deck auts covers plc
  rw [hl, List.filterMap_map, List.filter_filterMap, List.filterMap_filter]
  refine filterMap_eq fun f hf => ?_
  have hf := List.mem_range.1 hf
  simp only [Function.comp_apply, mapT_self]
  cases e : mapTo ms ms f with
  | none => simp
  | some p =>
    have h0 : gi p 0 = f := (mapTo_hom hm hm rfl ⟨by omega, by omega⟩ e).2
    by_cases h : gi xs f = gi xs 0
    · simp [h, h0, Option.filter]
    · simp [h, h0, Option.filter]
theorem deck_le (hm : IsMan ms) : (deck ms xs).length ≤ 400 := by
  have := List.length_filter_le (fun p => decide (gi xs (gi p 0) = gi xs 0)) (auts ms)
  have := auts_le hm
  unfold deck; omega

theorem plc_nodup (xs : List Int) (a : Int) : (plc xs a).Nodup := by
  unfold plc
  exact List.pairwise_map.2 ((List.nodup_range.filter _).imp fun h e => h (by omega))
theorem plc_step (hm : IsMan ms) (hl : ms.length = ks.length) (hx : Hom ms ks xs) {j : Nat} (hj : j < ms.length) (y : Int) : (plc xs y).length ≤ (plc xs (gi (gr ks j) y)).length := by
  have hin : ∀ x ∈ plc xs y, 0 ≤ x ∧ x < nf ms := fun x h => by have := mem_plc.1 h; rw [hx.len] at this; exact ⟨this.1, this.2.1⟩
  have := List.Nodup.length_le_of_subset (l₁ := (plc xs y).map (gi (gr ms j))) (l₂ := plc xs (gi (gr ks j) y)) (by
    refine List.pairwise_map.2 ((plc_nodup xs y).imp_of_mem fun {a b} ha hb hne e => hne ?_)
    have h1 := hm.m0.twice (m := gr ms j) (gr_in hj) (hin a ha)
    have h2 := hm.m0.twice (m := gr ms j) (gr_in hj) (hin b hb)
    rw [← h1, ← h2, e]) (by
    intro z hz
    obtain ⟨x, hxm, rfl⟩ := List.mem_map.1 hz
    have hxr := hin x hxm
    have hv := hm.syst.at (j := (j : Int)) (by omega) (by omega) hxr
    refine mem_plc.2 ⟨hv.1, by rw [hx.len]; exact hv.2, ?_⟩
    rw [hx.mv j hj x hxr.1 hxr.2, (mem_plc.1 hxm).2.2])
  simpa using this
theorem plc_rch (hm : IsMan ms) (hl : ms.length = ks.length) (hx : Hom ms ks xs) {y z : Int} (hr : Rch ks y z) : (plc xs y).length ≤ (plc xs z).length := by
  induction hr with
  | refl => exact Nat.le_refl _
  | step _ hmm ih =>
    obtain ⟨j, hj, rfl⟩ := mem_gr hmm
    exact Nat.le_trans ih (plc_step hm hl hx (by omega) _)
theorem plc_same (hm : IsMan ms) (hk : IsMan ks) (hl : ms.length = ks.length) (hx : Hom ms ks xs) {y : Int} (h0 : 0 ≤ y) (hy : y < nf ks) : (plc xs y).length = (plc xs 0).length := by
  have hk2 := hk.m0.f2
  have hr := hk.all h0 hy
  exact Nat.le_antisymm (plc_rch hm hl hx (hk.sym.back 0 y (by omega) (by omega) hr)) (plc_rch hm hl hx hr)
/-- the sum of f below k -/
def sumTo (f : Nat → Nat) : Nat → Nat
  | 0 => 0
  | k + 1 => sumTo f k + f k
theorem sumTo_const {f : Nat → Nat} {c : Nat} : ∀ {k : Nat}, (∀ y, y < k → f y = c) → sumTo f k = k * c
  | 0, _ => by simp [sumTo]
  | k + 1, h => by
    rw [sumTo, sumTo_const (fun y hy => h y (by omega)), h k (by omega), Nat.succ_mul]
theorem sumTo_one {x : Int} {g : Nat → Nat} : ∀ {k : Nat}, sumTo (fun y => (if x = (y : Int) then 1 else 0) + g y) k = (if 0 ≤ x ∧ x < k then 1 else 0) + sumTo g k
  | 0 => by simp [sumTo] <;> omega
  | k + 1 => by
    rw [sumTo, sumTo_one, sumTo]
    by_cases h1 : x = (k : Int)
    · rw [if_pos h1, if_neg (by omega), if_pos (by omega)]; omega
    · rw [if_neg h1]
      by_cases h2 : 0 ≤ x ∧ x < k
      · rw [if_pos h2, if_pos (by omega)]; omega
      · rw [if_neg h2, if_neg (by omega)]; omega
def cnt (xs : List Int) (a : Int) : Nat := (xs.filter fun x => decide (x = a)).length
theorem sum_cnt {k : Nat} : ∀ (xs : List Int), (∀ x ∈ xs, 0 ≤ x ∧ x < k) → sumTo (fun y => cnt xs y) k = xs.length
  | [], _ => by
    have : ∀ k, sumTo (fun y => cnt [] y) k = 0 := fun k => by induction k with | zero => rfl | succ k ih => rw [sumTo, ih]; rfl
    rw [this]; rfl
  | x :: xs, h => by
    have e : (fun y : Nat => cnt (x :: xs) y) = fun y : Nat => (if x = (y : Int) then 1 else 0) + cnt xs y := by
      funext y
      unfold cnt
      rw [List.filter_cons]
      by_cases hxy : x = (y : Int)
      · simp [hxy]; omega
      · simp [hxy]
    rw [e, sumTo_one, sum_cnt xs (fun y hy => h y (List.mem_cons_of_mem _ hy)), if_pos (h x (by simp))]
    simp; omega
theorem plc_cnt (xs : List Int) (a : Int) : (plc xs a).length = cnt xs a := by
  unfold plc cnt
  rw [List.length_map]
  have e : xs = (List.range xs.length).map (fun i : Nat => gi xs i) := list_ext_gi (by simp) fun j h0 hj => by
    rw [gi_range_map h0 (by omega), show ((j.toNat : Nat) : Int) = j by omega]
  have := congrArg (fun l : List Int => (l.filter fun x => decide (x = a)).length) e
  simp only [List.filter_map, List.length_map] at this
  rw [this]
  rfl
theorem fibre_size (hm : IsMan ms) (hk : IsMan ks) (h : IsCov ms ks xs) : nf ms = nf ks * (plc xs 0).length := by
  obtain ⟨hl, hx⟩ := h.hom hm hk
  have h1 := sum_cnt (k := nf ks) xs fun x hxm => by
    obtain ⟨i, hi, rfl⟩ := in_gi hxm
    exact hx.rng i (by omega) (by rw [← hx.len]; omega)
  rw [sumTo_const (c := (plc xs 0).length) (fun y hy => by rw [← plc_cnt]; exact plc_same hm hk hl hx (by omega) (by omega)), hx.len] at h1
  exact h1.symm
/-- as many moves of the deck as flags in a fibre -/
noncomputable def isNorm (ms ks : List (List Int)) (xs : List Int) : Bool := if covC ms ks xs = 0 then decide ((deck ms xs).length = (plc xs 0).length) else false
theorem isNorm_no (h : covC ms ks xs ≠ 0) : isNorm ms ks xs = false := if_neg h
theorem isNorm_yes (h : covC ms ks xs = 0) : isNorm ms ks xs = decide ((deck ms xs).length = (plc xs 0).length) := if_pos h
theorem norm_iff (hm : IsMan ms) (hk : IsMan ks) (h : IsCov ms ks xs) : (deck ms xs).length * nf ks = nf ms ↔ (deck ms xs).length = (plc xs 0).length := by
  have h2 := hk.m0.f2
  rw [fibre_size hm hk h, Nat.mul_comm]
  constructor
  · intro e; exact Nat.eq_of_mul_eq_mul_left (by omega) e
  · intro e; rw [e]
end
end Go.Mem
