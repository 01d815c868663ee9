/- Plain words on lists: cycles of a permutation, periods, orders. No program in sight. -/
import Derived.Test.YtlodnhflfijomaaP22
import Derived.Test.YtlodnhflfijomaaPB
namespace Go.Mem
set_option linter.unusedVariables false
def itr (p : List Int) (x : Int) : Nat → Int
  | 0 => x
  | k + 1 => gi p (itr p x k)
/-- p is a permutation of n points -/
structure Pm (n : Nat) (p : List Int) : Prop where
  len : p.length = n
  nodup : p.Nodup
  rng : ∀ x ∈ p, 0 ≤ x ∧ x < n
  n1000 : n ≤ 1000
section
variable {n : Nat} {p : List Int} {x y : Int} {i j k : Nat}
theorem Pm.at (h : Pm n p) (hx : 0 ≤ x ∧ x < n) : 0 ≤ gi p x ∧ gi p x < n := h.rng _ (gi_mem hx.1 (by rw [h.len]; exact hx.2))
theorem Pm.inj (h : Pm n p) (hx : 0 ≤ x ∧ x < n) (hy : 0 ≤ y ∧ y < n) (e : gi p x = gi p y) : x = y := gi_inj h.nodup (by rw [h.len]; exact hx) (by rw [h.len]; exact hy) e
theorem Pm.itr (h : Pm n p) (hx : 0 ≤ x ∧ x < n) : ∀ k, 0 ≤ Mem.itr p x k ∧ Mem.itr p x k < n
  | 0 => hx
  | k + 1 => h.at (h.itr hx k)
theorem itr_add (p : List Int) (x : Int) (j : Nat) : ∀ k, itr p x (j + k) = itr p (itr p x j) k
  | 0 => rfl
  | k + 1 => by
    show gi p (itr p x (j + k)) = gi p (itr p (itr p x j) k)
    rw [itr_add p x j k]
theorem Pm.cancel (h : Pm n p) (hx : 0 ≤ x ∧ x < n) (hy : 0 ≤ y ∧ y < n) : ∀ k, Mem.itr p x k = Mem.itr p y k → x = y
  | 0, e => e
  | k + 1, e => h.cancel hx hy k (h.inj (h.itr hx k) (h.itr hy k) e)
theorem Pm.syst (h : Pm n p) : Syst n [p] := fun m hm => by
  simp at hm; subst hm; exact ⟨h.len, h.rng⟩
theorem Pm.back (h : Pm n p) (hx : 0 ≤ x ∧ x < n) (hr : Rch [p] x y) : Rch [p] y x := by
  induction hr with
  | refl => exact .refl _
  | @step y m hr hm ih =>
    simp at hm; subst hm
    exact (perm_back h.len h.nodup h.rng h.n1000 (hr.rng h.syst hx)).trans ih
theorem itr_rch (p : List Int) (x : Int) : ∀ k, Rch [p] x (itr p x k)
  | 0 => .refl _
  | k + 1 => .step (itr_rch p x k) (by simp)
theorem rch_itr (hr : Rch [p] x y) : ∃ k, y = itr p x k := by
  induction hr with
  | refl => exact ⟨0, rfl⟩
  | @step y m hr hm ih =>
    simp at hm; subst hm
    obtain ⟨k, rfl⟩ := ih
    exact ⟨k + 1, rfl⟩
/-- there is a first time at which a point is led to itself -/
theorem Pm.ret (h : Pm n p) (hx : 0 ≤ x ∧ x < n) : ∃ k : Nat, k < n ∧ Mem.itr p x (k + 1) = x := by
  have hb : Rch [p] (gi p x) x := perm_back h.len h.nodup h.rng h.n1000 hx
  obtain ⟨k, hk⟩ := rch_itr hb
  have e : Mem.itr p x (k + 1) = x := by
    rw [show k + 1 = 1 + k by omega, itr_add]; exact hk.symm
  -- the least such
  have key : ∀ q, ∀ k, k ≤ q → Mem.itr p x (k + 1) = x → ∃ k0, k0 ≤ k ∧ Mem.itr p x (k0 + 1) = x ∧ ∀ j < k0, Mem.itr p x (j + 1) ≠ x := by
    intro q
    induction q with
    | zero => exact fun k hk e => ⟨k, Nat.le_refl _, e, fun j hj => by omega⟩
    | succ q ih =>
      intro k hk e
      by_cases hex : ∃ j, j < k ∧ Mem.itr p x (j + 1) = x
      · obtain ⟨j, hj, ej⟩ := hex
        obtain ⟨k0, h1, h2, h3⟩ := ih j (by omega) ej
        exact ⟨k0, by omega, h2, h3⟩
      · exact ⟨k, Nat.le_refl _, e, fun j hj ej => hex ⟨j, hj, ej⟩⟩
  obtain ⟨k0, _, e0, hmin⟩ := key k k (Nat.le_refl _) e
  refine ⟨k0, ?_, e0⟩
  have hnd : ((List.range (k0 + 1)).map (Mem.itr p x)).Nodup := by
    refine List.pairwise_map.2 ?_
    refine List.Pairwise.imp_of_mem (fun {a b} ha hb hab e => ?_) (List.pairwise_lt_range (n := k0 + 1))
    have hb' := List.mem_range.1 hb
    have e1 : x = Mem.itr p x (b - a) := by
      refine h.cancel hx (h.itr hx _) a ?_
      rw [← itr_add, show b - a + a = b by omega]; exact e
    exact hmin (b - a - 1) (by omega) (by rw [show b - a - 1 + 1 = b - a by omega]; exact e1.symm)
  have := nodup_le (n := n) hnd (fun y hy => by
    obtain ⟨j, _, rfl⟩ := List.mem_map.1 hy
    exact h.itr hx j)
  simp at this
  omega
end
/-- how often p leads x until it is back -/
def per (n : Nat) (p : List Int) (x : Int) : Nat := ((List.range n).find? fun k => decide (itr p x (k + 1) = x)).getD 0 + 1
section
variable {n : Nat} {p : List Int} {x y : Int} {i j k : Nat}
theorem Pm.per (h : Pm n p) (hx : 0 ≤ x ∧ x < n) : 1 ≤ Mem.per n p x ∧ Mem.per n p x ≤ n ∧ Mem.itr p x (Mem.per n p x) = x ∧ ∀ j, 1 ≤ j → j < Mem.per n p x → Mem.itr p x j ≠ x := by
  obtain ⟨k, hk, e⟩ := h.ret hx
  unfold Mem.per
  cases hf : (List.range n).find? fun k => decide (Mem.itr p x (k + 1) = x) with
  | none =>
    rw [List.find?_eq_none] at hf
    exact absurd (decide_eq_true e) (hf k (List.mem_range.2 hk))
  | some k0 =>
    rw [List.find?_eq_some_iff_getElem] at hf
    obtain ⟨h1, q, hq, e1, e2⟩ := hf
    have e1' : q = k0 := by simpa using e1
    subst e1'
    have hqn : q < n := by simpa using hq
    refine ⟨by simp, by simp; omega, by simpa using of_decide_eq_true h1, fun j h1j hj => ?_⟩
    simp at hj
    have := e2 (j - 1) (by omega)
    simp at this
    rwa [show j - 1 + 1 = j by omega] at this
theorem Pm.per_unique (h : Pm n p) (hx : 0 ≤ x ∧ x < n) (h1 : 1 ≤ k) (he : Mem.itr p x k = x) (hmin : ∀ j, 1 ≤ j → j < k → Mem.itr p x j ≠ x) : Mem.per n p x = k := by
  obtain ⟨a, b, c, d⟩ := h.per hx
  rcases Nat.lt_trichotomy (Mem.per n p x) k with hlt | he' | hgt
  · exact absurd c (hmin _ a hlt)
  · exact he'
  · exact absurd he (d _ h1 hgt)
/-- the cycle of a point -/
def cyOf (n : Nat) (p : List Int) (x : Int) : List Int := (List.range (per n p x)).map (itr p x)
theorem cyOf_len (n : Nat) (p : List Int) (x : Int) : (cyOf n p x).length = per n p x := by simp [cyOf]
theorem Pm.mem_cyOf (h : Pm n p) (hx : 0 ≤ x ∧ x < n) : y ∈ cyOf n p x ↔ Rch [p] x y := by
  constructor
  · intro hy
    obtain ⟨k, _, rfl⟩ := List.mem_map.1 hy
    exact itr_rch p x k
  · intro hr
    obtain ⟨a, b, c, d⟩ := h.per hx
    induction hr with
    | refl => exact List.mem_map.2 ⟨0, List.mem_range.2 (by omega), rfl⟩
    | @step y m hr hm ih =>
      simp at hm; subst hm
      obtain ⟨k, hk, rfl⟩ := List.mem_map.1 ih
      have hk := List.mem_range.1 hk
      by_cases hlt : k + 1 < Mem.per n m x
      · exact List.mem_map.2 ⟨k + 1, List.mem_range.2 hlt, rfl⟩
      · have e : k + 1 = Mem.per n m x := by omega
        have : gi m (Mem.itr m x k) = x := by
          show Mem.itr m x (k + 1) = x
          rw [e]; exact c
        rw [this]
        exact List.mem_map.2 ⟨0, List.mem_range.2 (by omega), rfl⟩
theorem Pm.per_same (h : Pm n p) (hx : 0 ≤ x ∧ x < n) (hr : Rch [p] x y) : Mem.per n p y = Mem.per n p x := by
  have hy := hr.rng h.syst hx
  obtain ⟨m, rfl⟩ := rch_itr hr
  obtain ⟨a, b, c, d⟩ := h.per hx
  have key : ∀ k, Mem.itr p (Mem.itr p x m) k = Mem.itr p (Mem.itr p x k) m := fun k => by rw [← itr_add, ← itr_add, Nat.add_comm]
  refine h.per_unique hy a (by rw [key, c]) fun j h1 hj e => d j h1 hj ?_
  rw [key] at e
  exact h.cancel (h.itr hx j) hx m e
/-- the cycles of the points below i -/
noncomputable def cycTo (n : Nat) (p : List Int) : Nat → List (List Int)
  | 0 => []
  | i + 1 => @ite _ (∃ c ∈ cycTo n p i, (i : Int) ∈ c) (Classical.propDecidable _) (cycTo n p i) (cycTo n p i ++ [cyOf n p i])
noncomputable def cyc (n : Nat) (p : List Int) : List (List Int) := cycTo n p n
theorem cycTo_hit (h : ∃ c ∈ cycTo n p i, (i : Int) ∈ c) : cycTo n p (i + 1) = cycTo n p i := if_pos h
theorem cycTo_miss (h : ¬ ∃ c ∈ cycTo n p i, (i : Int) ∈ c) : cycTo n p (i + 1) = cycTo n p i ++ [cyOf n p i] := if_neg h
theorem cycTo_in (hi : i ≤ n) : ∀ c ∈ cycTo n p i, ∃ j : Nat, j < n ∧ j < i ∧ c = cyOf n p j := by
  induction i with
  | zero => intro c hc; exact absurd hc (by simp [cycTo])
  | succ i ih =>
    intro c hc
    by_cases h : ∃ c ∈ cycTo n p i, (i : Int) ∈ c
    · rw [cycTo_hit h] at hc
      obtain ⟨j, h1, h2, h3⟩ := ih (by omega) c hc
      exact ⟨j, h1, by omega, h3⟩
    · rw [cycTo_miss h] at hc
      rcases List.mem_append.1 hc with hc | hc
      · obtain ⟨j, h1, h2, h3⟩ := ih (by omega) c hc
        exact ⟨j, h1, by omega, h3⟩
      · simp at hc; exact ⟨i, by omega, by omega, hc⟩
theorem cycTo_le : (cycTo n p i).length ≤ i := by
  induction i with
  | zero => simp [cycTo]
  | succ i ih =>
    by_cases h : ∃ c ∈ cycTo n p i, (i : Int) ∈ c
    · rw [cycTo_hit h]; omega
    · rw [cycTo_miss h]; simp; omega
theorem Pm.cyc_shut (h : Pm n p) (hi : i ≤ n) {c : List Int} (hc : c ∈ cycTo n p i) (hx : 0 ≤ x ∧ x < n) (hr : Rch [p] x y) : x ∈ c ↔ y ∈ c := by
  obtain ⟨j, hj, _, rfl⟩ := cycTo_in hi c hc
  rw [h.mem_cyOf (by omega), h.mem_cyOf (by omega)]
  exact ⟨fun h1 => h1.trans hr, fun h1 => h1.trans (h.back hx hr)⟩
theorem Pm.cyc_all (h : Pm n p) : ∀ i : Nat, i ≤ n → ∀ j : Nat, j < i → ∃ c ∈ cycTo n p i, (j : Int) ∈ c
  | 0, _, j, hj => by omega
  | i + 1, hi, j, hj => by
    by_cases hex : ∃ c ∈ cycTo n p i, (i : Int) ∈ c
    · rw [cycTo_hit hex]
      by_cases hji : j = i
      · subst hji; exact hex
      · exact h.cyc_all i (by omega) j (by omega)
    · rw [cycTo_miss hex]
      by_cases hji : j = i
      · subst hji
        exact ⟨_, List.mem_append_right _ (by simp), (h.mem_cyOf (by omega)).2 (.refl _)⟩
      · obtain ⟨c, hc, h2⟩ := h.cyc_all i (by omega) j (by omega)
        exact ⟨c, List.mem_append_left _ hc, h2⟩
theorem Pm.cyc_per (h : Pm n p) {c : List Int} (hc : c ∈ cyc n p) : (∀ x ∈ c, 0 ≤ x ∧ x < n ∧ c.length = Mem.per n p x) ∧ 1 ≤ c.length ∧ c.length ≤ n := by
  obtain ⟨j, hj, _, rfl⟩ := cycTo_in (Nat.le_refl n) c hc
  have hj' : 0 ≤ (j : Int) ∧ (j : Int) < n := by omega
  obtain ⟨a, b, _⟩ := h.per hj'
  refine ⟨fun x hx => ?_, by rw [cyOf_len]; exact a, by rw [cyOf_len]; exact b⟩
  have hr := (h.mem_cyOf hj').1 hx
  have hx' := hr.rng h.syst hj'
  exact ⟨hx'.1, hx'.2, by rw [cyOf_len, h.per_same hj' hr]⟩
/-- what marks hold while the cycle of i is walked -/
structure Cw (n : Nat) (p : List Int) (i k : Nat) (bs : List Bool) : Prop where
  len : bs.length = n
  mark : ∀ y : Int, 0 ≤ y → y < n → (gb bs y = true ↔ (∃ c ∈ cycTo n p i, y ∈ c) ∨ ∃ j : Nat, j < k ∧ y = itr p i j)
theorem Pm.cw_new (h : Pm n p) {bs : List Bool} (hw : Cw n p i k bs) (hi : i < n) (hno : ¬ ∃ c ∈ cycTo n p i, (i : Int) ∈ c) (hk : k < Mem.per n p i) : gb bs (Mem.itr p i k) = false := by
  have hi' : 0 ≤ (i : Int) ∧ (i : Int) < n := by omega
  have hx := h.itr hi' k
  cases hb : gb bs (Mem.itr p i k) with
  | false => rfl
  | true =>
    exfalso
    rcases (hw.mark _ hx.1 hx.2).1 hb with ⟨c, hc, hy⟩ | ⟨j, hj, e⟩
    · exact hno ⟨c, hc, (h.cyc_shut (by omega) hc hi' (itr_rch p i k)).2 hy⟩
    · have e1 : (i : Int) = Mem.itr p i (k - j) := by
        refine h.cancel hi' (h.itr hi' _) j ?_
        rw [← itr_add, show k - j + j = k by omega]; exact e.symm
      exact (h.per hi').2.2.2 (k - j) (by omega) (by omega) e1.symm
theorem Pm.cw_end (h : Pm n p) {bs : List Bool} (hw : Cw n p i (Mem.per n p i) bs) (hi : i < n) : gb bs (Mem.itr p i (Mem.per n p i)) = true := by
  have hi' : 0 ≤ (i : Int) ∧ (i : Int) < n := by omega
  obtain ⟨a, b, c, d⟩ := h.per hi'
  rw [c]
  exact (hw.mark _ hi'.1 hi'.2).2 (.inr ⟨0, by omega, rfl⟩)
theorem Pm.cw_step (h : Pm n p) {bs : List Bool} (hw : Cw n p i k bs) (hi : i < n) : Cw n p i (k + 1) (setb bs (Mem.itr p i k) true) := by
  have hx := h.itr (x := (i : Int)) (by omega) k
  refine ⟨by simp [setb, hw.len], fun y h0 hy => ?_⟩
  rw [gb_setb _ _ _ _ hx.1 (by rw [hw.len]; exact hx.2) h0]
  split
  · rename_i e; simp; exact .inr ⟨k, by omega, e⟩
  · rename_i e
    rw [hw.mark y h0 hy]
    constructor
    · rintro (h1 | ⟨j, hj, e2⟩)
      · exact .inl h1
      · exact .inr ⟨j, by omega, e2⟩
    · rintro (h1 | ⟨j, hj, e2⟩)
      · exact .inl h1
      · refine .inr ⟨j, ?_, e2⟩
        by_cases hjk : j = k
        · subst hjk; exact absurd e2 e
        · omega
theorem Pm.cw_next (h : Pm n p) {bs : List Bool} (hw : Cw n p i (Mem.per n p i) bs) (hi : i < n) (hno : ¬ ∃ c ∈ cycTo n p i, (i : Int) ∈ c) : Cw n p (i + 1) 0 bs := by
  refine ⟨hw.len, fun y h0 hy => ?_⟩
  rw [hw.mark y h0 hy, cycTo_miss hno]
  constructor
  · rintro (⟨c, hc, h2⟩ | ⟨j, hj, e⟩)
    · exact .inl ⟨c, List.mem_append_left _ hc, h2⟩
    · exact .inl ⟨cyOf n p i, List.mem_append_right _ (by simp), List.mem_map.2 ⟨j, List.mem_range.2 hj, e.symm⟩⟩
  · rintro (⟨c, hc, h2⟩ | ⟨j, hj, e⟩)
    · rcases List.mem_append.1 hc with hc | hc
      · exact .inl ⟨c, hc, h2⟩
      · simp at hc; subst hc
        obtain ⟨j, hj, e⟩ := List.mem_map.1 h2
        exact .inr ⟨j, List.mem_range.1 hj, e.symm⟩
    · omega
theorem cw_skip {bs : List Bool} (hw : Cw n p i 0 bs) (hyes : ∃ c ∈ cycTo n p i, (i : Int) ∈ c) : Cw n p (i + 1) 0 bs := by
  refine ⟨hw.len, fun y h0 hy => ?_⟩
  rw [hw.mark y h0 hy, cycTo_hit hyes]
  constructor
  · rintro (h1 | ⟨j, hj, _⟩)
    · exact .inl h1
    · omega
  · rintro (h1 | ⟨j, hj, _⟩)
    · exact .inl h1
    · omega
theorem Cw.start (n : Nat) (p : List Int) : Cw n p 0 0 (List.replicate n false) := by
  refine ⟨by simp, fun y h0 hy => ?_⟩
  have : gb (List.replicate n false) y = false := by
    have : y.toNat < n := by omega
    simp [gb, List.getD, this]
  rw [this]
  simp [cycTo]
theorem Cw.seen {bs : List Bool} (hw : Cw n p i 0 bs) (hi : i < n) : gb bs i = true ↔ ∃ c ∈ cycTo n p i, (i : Int) ∈ c := by
  rw [hw.mark _ (by omega) (by omega)]
  constructor
  · rintro (h1 | ⟨j, hj, _⟩)
    · exact h1
    · omega
  · exact .inl
theorem cyTake_succ (p : List Int) (x : Int) (k : Nat) : (List.range (k + 1)).map (itr p x) = (List.range k).map (itr p x) ++ [itr p x k] := by simp [List.range_succ]
end
section
variable {ms : List (List Int)} {wd : List Int}
theorem run_back (hm : IsMan ms) : ∀ (wd : List Int), (∀ x ∈ wd, 0 ≤ x ∧ x < ms.length) → ∀ f : Int, 0 ≤ f ∧ f < nf ms → run ms wd (run ms wd.reverse f) = f
  | [], _, f, hf => rfl
  | x :: wd, h, f, hf => by
    have hx := h x (by simp)
    have ih := run_back hm wd (fun y hy => h y (List.mem_cons_of_mem _ hy)) f hf
    have e : run ms (x :: wd).reverse f = gi (gr ms x) (run ms wd.reverse f) := by simp [run, List.foldl_append]
    have hr := run_rng hm.syst wd.reverse (fun y hy => h y (List.mem_cons_of_mem _ (List.mem_reverse.1 hy))) f hf
    rw [e]
    show run ms wd (gi (gr ms x) (gi (gr ms x) (run ms wd.reverse f))) = f
    obtain ⟨q, rfl⟩ : ∃ q : Nat, x = q := ⟨x.toNat, by omega⟩
    rw [hm.m0.twice (gr_in (by omega)) hr]
    exact ih
theorem does_pm (hm : IsMan ms) (hw : IsWord ms wd) : Pm (nf ms) (does ms wd (nf ms)) := by
  have h4 := hm.m0.f400
  refine ⟨length_does _ _ _, surj_nodup (length_does _ _ _) (fun x h0 hx => ?_), fun x hx => ?_, by omega⟩
  · have hr := run_rng hm.syst wd.reverse (fun y hy => hw.2 y (List.mem_reverse.1 hy)) x ⟨h0, hx⟩
    rw [← run_back hm wd hw.2 x ⟨h0, hx⟩, ← gi_does (n := nf ms) hr.1 hr.2]
    exact gi_mem hr.1 (by rw [length_does]; exact hr.2)
  · obtain ⟨i, hi, rfl⟩ := in_gi hx
    rw [length_does] at hi
    rw [gi_does (by omega) (by omega)]
    exact run_rng hm.syst wd hw.2 _ (by omega)
theorem idl_word (hm : IsMan ms) : IsWord ms (idl ms.length) := by
  have h5 := hm.m0.r5
  refine ⟨by simp; omega, fun x hx => ?_⟩
  obtain ⟨i, hi, rfl⟩ := List.mem_map.1 hx
  have := List.mem_range.1 hi
  omega
noncomputable def plL (ms : List (List Int)) : List Int := if IsMan ms then (List.range (nf ms)).map fun f : Nat => (per (nf ms) (does ms (idl ms.length) (nf ms)) f : Int) else []
theorem plL_no (h : ¬ IsMan ms) : plL ms = [] := if_neg h
theorem plL_yes (h : IsMan ms) : plL ms = (List.range (nf ms)).map fun f : Nat => (per (nf ms) (does ms (idl ms.length) (nf ms)) f : Int) := if_pos h
theorem plL_len (ms : List (List Int)) : (plL ms).length ≤ 4000000000000000000 := by
  unfold plL
  split
  · rename_i h; have := h.m0.f400; simp; omega
  · simp
/-- the order: the least common multiple of the cycles' lengths -/
def lcms (L : List Nat) : Nat := L.foldl Nat.lcm 1
theorem foldl_lcm (L : List Nat) : ∀ a : Nat, L.foldl Nat.lcm a = Nat.lcm a (lcms L) := by
  induction L with
  | nil => intro a; simp [lcms]
  | cons x L ih =>
    intro a
    show L.foldl Nat.lcm (Nat.lcm a x) = _
    rw [ih, Nat.lcm_assoc]
    congr 1
    show Nat.lcm x (lcms L) = L.foldl Nat.lcm (Nat.lcm 1 x)
    rw [ih, Nat.lcm_one_left]
theorem lcms_cons (x : Nat) (L : List Nat) : lcms (x :: L) = Nat.lcm x (lcms L) := by
  show L.foldl Nat.lcm (Nat.lcm 1 x) = _
  rw [foldl_lcm, Nat.lcm_one_left]
theorem lcms_app (L M : List Nat) : lcms (L ++ M) = Nat.lcm (lcms L) (lcms M) := by
  unfold lcms
  rw [List.foldl_append, foldl_lcm]; rfl
theorem lcms_perm {L M : List Nat} (h : L.Perm M) : lcms L = lcms M := by
  induction h with
  | nil => rfl
  | cons x _ ih => rw [lcms_cons, lcms_cons, ih]
  | swap x y L => rw [lcms_cons, lcms_cons, lcms_cons, lcms_cons, ← Nat.lcm_assoc, ← Nat.lcm_assoc, Nat.lcm_comm x y]
  | trans _ _ ih1 ih2 => exact ih1.trans ih2
theorem lcms_pos {L : List Nat} (h : ∀ x ∈ L, 1 ≤ x) : 1 ≤ lcms L := by
  induction L with
  | nil => simp [lcms]
  | cons x L ih =>
    rw [lcms_cons]
    exact Nat.lcm_pos (h x (by simp)) (ih fun y hy => h y (List.mem_cons_of_mem _ hy))
theorem lcms_pre {L : List Nat} (h : ∀ x ∈ L, 1 ≤ x) (i : Nat) : lcms (L.take i) ≤ lcms L := by
  conv => rhs; rw [← List.take_append_drop i L, lcms_app]
  exact Nat.le_of_dvd (Nat.lcm_pos (lcms_pos fun x hx => h x (List.mem_of_mem_take hx)) (lcms_pos fun x hx => h x (List.mem_of_mem_drop hx))) (Nat.dvd_lcm_left _ _)
theorem lcm_mul (a b : Nat) (ha : 1 ≤ a) (hb : 1 ≤ b) : a * (b / Nat.gcd a b) = Nat.lcm a b := by
  unfold Nat.lcm
  rw [Nat.mul_div_assoc _ (Nat.gcd_dvd_right a b)]
theorem lcm_mul2 (a b : Nat) (ha : 1 ≤ a) (hb : 1 ≤ b) : a / Nat.gcd a b * b = Nat.lcm a b := by
  unfold Nat.lcm
  rw [Nat.mul_comm a b, Nat.mul_div_assoc _ (Nat.gcd_dvd_left a b), Nat.mul_comm]
/-- the lengths of the cycles -/
noncomputable def cyl (n : Nat) (p : List Int) : List Nat := (cyc n p).map List.length
noncomputable def ord (n : Nat) (p : List Int) : Nat := lcms (cyl n p)
noncomputable def wpN (ms : List (List Int)) (wd : List Int) : Int := if wordC ms wd = 0 ∧ ord (nf ms) (does ms wd (nf ms)) ≤ 1000000000000000 then ord (nf ms) (does ms wd (nf ms)) else 0
noncomputable def wpC (ms : List (List Int)) (wd : List Int) : Int := if wordC ms wd = 0 then (if ord (nf ms) (does ms wd (nf ms)) ≤ 1000000000000000 then 0 else 3) else wordC ms wd
theorem wp_1 (h : wordC ms wd ≠ 0) : wpN ms wd = 0 ∧ wpC ms wd = wordC ms wd := ⟨if_neg fun e => h e.1, if_neg h⟩
theorem wp_2 (h : wordC ms wd = 0) (hb : ¬ ord (nf ms) (does ms wd (nf ms)) ≤ 1000000000000000) : wpN ms wd = 0 ∧ wpC ms wd = 3 := ⟨if_neg fun e => hb e.2, by unfold wpC; rw [if_pos h, if_neg hb]⟩
theorem wp_3 (h : wordC ms wd = 0) (hb : ord (nf ms) (does ms wd (nf ms)) ≤ 1000000000000000) : wpN ms wd = ord (nf ms) (does ms wd (nf ms)) ∧ wpC ms wd = 0 := ⟨if_pos ⟨h, hb⟩, by unfold wpC; rw [if_pos h, if_pos hb]⟩
theorem wordC_0 (h : wordC ms wd = 0) : IsMan ms ∧ IsWord ms wd := by
  unfold wordC at h
  by_cases hm : IsMan ms
  · rw [if_pos hm] at h
    by_cases hw : IsWord ms wd
    · exact ⟨hm, hw⟩
    · rw [if_neg hw] at h; exact absurd h (by decide)
  · rw [if_neg hm] at h; exact absurd h (by decide)
end
end Go.Mem
